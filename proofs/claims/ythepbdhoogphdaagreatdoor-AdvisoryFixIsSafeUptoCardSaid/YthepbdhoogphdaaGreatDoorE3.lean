/-
  The evaluator's functions: a function of the program keeps what the evaluator says.
-/
import Derived.Test.YthepbdhoogphdaaGreatDoorE2
import Derived.Orders
import Derived.LoopN
import Derived.KernelRfl
set_option linter.unusedVariables false
set_option linter.unusedSimpArgs false
set_option linter.unusedSectionVars false
set_option maxRecDepth 100000
namespace Go.Ev
variable [Pins]
section
variable {P : Program} {fr : Fr} {free free' : Nat → Prop} {self : Nat} {σ σ' : Nat → Option Obj} {w w' : World} {G G' : Gh} {I : Im}
theorem MemS.back (hm : MemS P fr free σ w G) {k b : Nat} {t : Ty} {c : SV} (hbox : G.box k = some (b, t)) {wr : Bool} (ho : ObjOK P fr w G k (.box t c wr)) (hb : ∀ j o', σ j = some o' → blk G j o' ≠ some b) :
 MemS P fr free (ucj_ σ [(k, some (.box t c wr))]) w G := by
 have hblk : blk G k (.box t c wr) = some b := by simp [blk, hbox]
 refine ⟨fun j o h => ?_, fun i j o1 o2 b' hi hj hbi hbj => ?_, hm.after, fun j hj => ?_⟩
 · rw [ue8_] at h
   by_cases e : j = k
   · rw [if_pos e] at h; cases h; subst e; exact ho
   · rw [if_neg e] at h; exact hm.objs j o h
 · rw [ue8_] at hi hj
   by_cases e1 : i = k <;> by_cases e2 : j = k
   · rw [e1, e2]
   · exfalso
     rw [if_pos e1] at hi; rw [if_neg e2] at hj
     cases hi; subst e1
     rw [hblk] at hbi; cases hbi
     exact hb j o2 hj hbj
   · exfalso
     rw [if_neg e1] at hi; rw [if_pos e2] at hj
     cases hj; subst e2
     rw [hblk] at hbj; cases hbj
     exact hb i o1 hi hbi
   · rw [if_neg e1] at hi; rw [if_neg e2] at hj
     exact hm.sep i j o1 o2 b' hi hj hbi hbj
 · have hf := hm.fresh j hj
   refine ⟨?_, hf.2⟩
   rw [ue8_, if_neg (fun e => ?_)]
   · exact hf.1
   · subst e
     rw [hf.2.2.1] at hbox; cases hbox
theorem MemS.backO (hm : MemS P fr free σ w G) {k : Nat} {o : Obj} (ho : ObjOK P fr w G k o) (hnf : ¬ free k) (hb : ∀ b, blk G k o = some b → ∀ j o', σ j = some o' → blk G j o' ≠ some b) :
 MemS P fr free (ucj_ σ [(k, some o)]) w G := by
 refine ⟨fun j o' h => ?_, fun i j o1 o2 b' hi hj hbi hbj => ?_, hm.after, fun j hj => ?_⟩
 · rw [ue8_] at h
   by_cases e : j = k
   · rw [if_pos e] at h; cases h; subst e; exact ho
   · rw [if_neg e] at h; exact hm.objs j o' h
 · rw [ue8_] at hi hj
   by_cases e1 : i = k <;> by_cases e2 : j = k
   · rw [e1, e2]
   · exfalso
     rw [if_pos e1] at hi; rw [if_neg e2] at hj
     cases hi; subst e1
     exact hb _ hbi j o2 hj hbj
   · exfalso
     rw [if_neg e1] at hi; rw [if_pos e2] at hj
     cases hj; subst e2
     exact hb _ hbj i o1 hi hbi
   · rw [if_neg e1] at hi; rw [if_neg e2] at hj
     exact hm.sep i j o1 o2 b' hi hj hbi hbj
 · have hf := hm.fresh j hj
   refine ⟨?_, hf.2⟩
   rw [ue8_, if_neg (fun e => ?_)]
   · exact hf.1
   · subst e; exact hnf hj
def BoxArgs (G : Gh) : List Sh → List SV → List Value → Prop
 | .box c :: ps, s :: ss, v :: vs => (∃ k u b, s = .ptr k [] u ∧ G.box k = some (b, c.ty) ∧ v = .pointer (some ⟨b, 0, none⟩)) ∧ BoxArgs G ps ss vs
 | .bld _ false :: ps, s :: ss, v :: vs => (∃ k u b, s = .ptr k [] u ∧ G.box k = some (b, bldTy) ∧ v = .pointer (some ⟨b, 0, none⟩)) ∧ BoxArgs G ps ss vs
 | .io _ t :: ps, s :: ss, v :: vs => ((∃ k, s = .obj k 0 ∧ G.val k 0 = some v ∧ G.ety k = some t) ∨ (s = .nilS ∧ v = .slice none 0 0)) ∧ BoxArgs G ps ss vs
 | _ :: ps, _ :: ss, _ :: vs => BoxArgs G ps ss vs
 | _, _, _ => True
theorem ub5u_ : ∀ {ps : List Sh} {ss : List SV} {vals : List Value} {r : TupR (ps.filter isBox)} {n : Nat} {bs : List Nat} {free : Nat → Prop}, MemS P fr free σ w G → ss.length = ps.length → vals.length = ps.length →
 BoxArgs G ps ss vals → ShL P w G.im (ps.filter isBox) r (uob_ ps vals) bs → bs.Nodup →
 (∀ b ∈ bs, fr.owned b ∧ ∀ j o, σ j = some o → blk G j o ≠ some b) → (∀ k, n ≤ k → k < n + cntL (ps.filter isBox) → free k) →
 ∃ G', Made P fr free σ w G n (n + cntL (ps.filter isBox)) (un9_ ps ss (mkL (ps.filter isBox) r n)) bs G' := by
 intro ps
 induction ps with
 | nil =>
   intro ss vals r n bs free hm _ _ _ h _ _ _
   obtain ⟨_, rfl⟩ := h
   have : un9_ [] ss (mkL ([] : List Sh) r n) = [] := by cases ss <;> rfl
   refine ⟨G, ?_⟩
   show Made P fr free σ w G n n (un9_ [] ss (mkL ([] : List Sh) r n)) [] G
   rw [this]
   exact Made.none hm
 | cons p ps ih =>
   intro ss vals r n bs free hm hls hlv hba h hnd hbs hfree
   cases ss with
   | nil => cases hls
   | cons s ss =>
     cases vals with
     | nil => cases hlv
     | cons v vals =>
       cases p with
       | box c =>
         obtain ⟨⟨k, u, b, rfl, hbox, rfl⟩, hba'⟩ := hba
         have hsplit : ∃ (x : c.T) (r' : TupR (ps.filter isBox)) (b1 b2 : List Nat), bs = b1 ++ b2 ∧ ShC P w G.im (.box c) x [.pointer (some ⟨b, 0, none⟩)] b1 ∧ ShL P w G.im (ps.filter isBox) r' (uob_ ps vals) b2 ∧
          mkL ((Sh.box c :: ps).filter isBox) r n = mkC (.box c) x n :: mkL (ps.filter isBox) r' (n + (c.cnt + 1)) := by
          have h : ShL P w G.im ([Sh.box c] ++ ps.filter isBox) r ([.pointer (some ⟨b, 0, none⟩)] ++ uob_ ps vals) bs := h
          obtain ⟨b1, b2, e1, h1, h2⟩ := h.split rfl
          obtain ⟨v', e2, h3⟩ := h1
          have e2 : Value.pointer (some ⟨b, 0, none⟩) = v' := by injection e2
          subst e2
          refine ⟨_, _, b1, b2, e1, h3, h2, ?_⟩
          exact ubm6_ (a := [Sh.box c]) (b := ps.filter isBox) (x := r) (n := n)
         obtain ⟨x, r', b1, b2, rfl, h1, h2, h3⟩ := hsplit
         have hnd' := List.nodup_append.1 hnd
         have hcnt : cntL ((Sh.box c :: ps).filter isBox) = c.cnt + 1 + cntL (ps.filter isBox) := rfl
         rw [hcnt] at hfree ⊢
         obtain ⟨G1, m1⟩ := ih (n := n + (c.cnt + 1)) hm (by simpa using hls) (by simpa using hlv) hba' h2 hnd'.2.1 (fun b hb => hbs b (List.mem_append_right _ hb)) (fun k h1 h2 => hfree k (by omega) (by omega))
         obtain ⟨b0, cells, el, bs', e1, rfl, q1, q2, q3, q4, q5, hlay⟩ := h1
         have hb0 : b0 = b := by
          injection e1 with e1 _
          injection e1 with e1
          injection e1 with e1
          injection e1 with e1 _ _
          exact e1.symm
         subst hb0
         have hndc := List.nodup_cons.1 hnd'.1
         have hfr : ∀ b' ∈ b0 :: bs', fr.owned b' ∧ ∀ j o, ucj_ σ (un9_ ps ss (mkL (ps.filter isBox) r' (n + (c.cnt + 1)))) j = some o → blk G1 j o ≠ some b' := fun b' hb' =>
          ⟨(hbs b' (List.mem_append_left _ hb')).1, fun j o ho hb2 => by
            rcases m1.own j o b' ho hb2 with h | ⟨j', o', h3, h4⟩
            · exact hnd'.2.2 b' hb' b' h rfl
            · exact (hbs b' (List.mem_append_left _ hb')).2 j' o' h3 h4⟩
         obtain ⟨G2, m2, r2, f2⟩ := ubuc_ (s := c) (x := x) (n := n + 1) m1.mem (by rw [m1.im]; exact q3) hndc.2 (fun b' hb' => hfr b' (List.mem_cons_of_mem _ hb')) (fun k h1 h2 => ⟨hfree k (by omega) (by omega), by omega⟩)
         have him : G2.im = G.im := m2.im.trans m1.im
         have hle := m1.le.trans m2.le
         have hbox2 : G2.box k = some (b0, c.ty) := hle.box _ _ hbox
         have hno : ∀ j o', ucj_ (ucj_ σ (un9_ ps ss (mkL (ps.filter isBox) r' (n + (c.cnt + 1))))) (mkC c x (n + 1)).obs j = some o' → blk G2 j o' ≠ some b0 := by
          intro j o' ho hb2
          rcases m2.own j o' b0 ho hb2 with h | ⟨j', o2, h3, h4⟩
          · exact hndc.1 h
          · exact (hfr b0 List.mem_cons_self).2 j' o2 h3 h4
         have hback := m2.mem.back (wr := true) (k := k) (b := b0) (t := c.ty) (c := (mkC c x (n + 1)).sv) hbox2
          ⟨b0, cells, el, hbox2, q1, q2, f2, r2, ⟨fun _ o => by rw [him]; exact q4 o, fun h => by cases h⟩, by rw [him]; exact q5, (hfr b0 List.mem_cons_self).1, hlay⟩ hno
         have eobs : un9_ (.box c :: ps) (.ptr k [] u :: ss) (mkL ((Sh.box c :: ps).filter isBox) r n) =
          ([(k, some (.box c.ty (mkC c x (n + 1)).sv true))] ++ (mkC c x (n + 1)).obs) ++ un9_ ps ss (mkL (ps.filter isBox) r' (n + (c.cnt + 1))) := by
          rw [h3]; rfl
         refine ⟨G2, hle, him, ?_, ?_⟩
         · rw [eobs, ubg_, ubg_]
           exact hback.shrink fun j hj => ⟨⟨hj.1, fun e => hj.2 ⟨by omega, by omega⟩⟩, fun e => hj.2 ⟨by omega, by omega⟩⟩
         · intro j o b' hj hb'
           rw [eobs, ubg_, ubg_, ue8_] at hj
           by_cases e : j = k
           · rw [if_pos e] at hj; cases hj; subst e
             simp only [blk, hbox2, Option.map_some, Option.some.injEq] at hb'
             subst hb'
             exact .inl (List.mem_append_left _ List.mem_cons_self)
           · rw [if_neg e] at hj
             rcases m2.own j o b' hj hb' with h | ⟨j', o', h3, h4⟩
             · exact .inl (List.mem_append_left _ (List.mem_cons_of_mem _ h))
             · rcases m1.own j' o' b' h3 h4 with h | h
               · exact .inl (List.mem_append_right _ h)
               · exact .inr h
       | io el t =>
         obtain ⟨hs, hba'⟩ := hba
         have hsplit : ∃ (x : List t.T) (r' : TupR (ps.filter isBox)) (b1 b2 : List Nat), bs = b1 ++ b2 ∧ ShC P w G.im (.io el t) x [v] b1 ∧ ShL P w G.im (ps.filter isBox) r' (uob_ ps vals) b2 ∧
          mkL ((Sh.io el t :: ps).filter isBox) r n = mkC (.io el t) x n :: mkL (ps.filter isBox) r' (n + 1) := by
          have h : ShL P w G.im ([Sh.io el t] ++ ps.filter isBox) r ([v] ++ uob_ ps vals) bs := h
          obtain ⟨b1, b2, e1, h1, h2⟩ := h.split rfl
          obtain ⟨v', e2, h3⟩ := h1
          have e2 : v = v' := by injection e2
          subst e2
          exact ⟨_, _, b1, b2, e1, h3, h2, ubm6_ (a := [Sh.io el t]) (b := ps.filter isBox) (x := r) (n := n)⟩
         obtain ⟨x, r', b1, b2, rfl, h1, h2, h3⟩ := hsplit
         have hnd' := List.nodup_append.1 hnd
         have hcnt : cntL ((Sh.io el t :: ps).filter isBox) = 1 + cntL (ps.filter isBox) := rfl
         rw [hcnt] at hfree ⊢
         obtain ⟨G1, m1⟩ := ih (n := n + 1) hm (by simpa using hls) (by simpa using hlv) hba' h2 hnd'.2.1 (fun b hb => hbs b (List.mem_append_right _ hb)) (fun k h1 h2 => hfree k (by omega) (by omega))
         have hfr : ∀ b' ∈ b1, fr.owned b' ∧ ∀ j o, ucj_ σ (un9_ ps ss (mkL (ps.filter isBox) r' (n + 1))) j = some o → blk G1 j o ≠ some b' := fun b' hb' =>
          ⟨(hbs b' (List.mem_append_left _ hb')).1, fun j o ho hb2 => by
            rcases m1.own j o b' ho hb2 with h | ⟨j', o', h3, h4⟩
            · exact hnd'.2.2 b' hb' b' h rfl
            · exact (hbs b' (List.mem_append_left _ hb')).2 j' o' h3 h4⟩
         rcases hs with ⟨k, rfl, hval, hety⟩ | ⟨rfl, rfl⟩
         · have hval1 := m1.le.val _ _ _ hval
           have hety1 := m1.le.ety _ _ hety
           have hsl : SlOK fr w G1.im el t x true v ∧ ∀ b', blk G1 k (.sl el t x 0 true) = some b' → b' ∈ b1 := by
            rw [m1.im]
            rcases h1 with ⟨e1, e2, rfl⟩ | ⟨b', cap, cells, e1, rfl, q1, q2, q3, q4, q5, q6, q7⟩
            · have e1 : v = .slice none 0 0 := by injection e1
              subst e1
              exact ⟨.inl ⟨rfl, e2⟩, fun b' hb' => by simp [blk, hval1] at hb'⟩
            · have e1 : v = .slice (some ⟨b', 0, none⟩) x.length cap := by injection e1
              subst e1
              refine ⟨.inr ⟨b', cap, cells, rfl, q1, q2, q3, q4, (hfr b' (by simp)).1, q5, q6, q7⟩, fun b2' hb' => ?_⟩
              simp only [blk, hval1, Option.some.injEq] at hb'
              subst hb'; simp
           have hback := m1.mem.backO (k := k) (o := .sl el t x 0 true) ⟨hety1, v, hval1, hsl.1⟩ (fun hf => by
            have := (hm.fresh k hf.1).2.1
            rw [hety] at this; cases this) (fun b' hb' j o' ho' => (hfr b' (hsl.2 b' hb')).2 j o' ho')
           have eobs : un9_ (.io el t :: ps) (.obj k 0 :: ss) (mkL ((Sh.io el t :: ps).filter isBox) r n) = [(k, some (.sl el t x 0 true))] ++ un9_ ps ss (mkL (ps.filter isBox) r' (n + 1)) := by
            rw [h3]; rfl
           refine ⟨G1, m1.le, m1.im, ?_, ?_⟩
           · rw [eobs, ubg_]
             exact hback.shrink fun j hj => ⟨hj.1, fun e => hj.2 ⟨by omega, by omega⟩⟩
           · intro j o b' hj hb'
             rw [eobs, ubg_, ue8_] at hj
             by_cases e : j = k
             · rw [if_pos e] at hj; cases hj; subst e
               exact .inl (List.mem_append_left _ (hsl.2 b' hb'))
             · rw [if_neg e] at hj
               rcases m1.own j o b' hj hb' with h | h
               · exact .inl (List.mem_append_right _ h)
               · exact .inr h
         · have eobs : un9_ (.io el t :: ps) (.nilS :: ss) (mkL ((Sh.io el t :: ps).filter isBox) r n) = un9_ ps ss (mkL (ps.filter isBox) r' (n + 1)) := by
            rw [h3]; rfl
           refine ⟨G1, m1.le, m1.im, ?_, ?_⟩
           · rw [eobs]
             exact m1.mem.shrink fun j hj => ⟨hj.1, fun e => hj.2 ⟨by omega, by omega⟩⟩
           · intro j o b' hj hb'
             rw [eobs] at hj
             rcases m1.own j o b' hj hb' with h | h
             · exact .inl (List.mem_append_right _ h)
             · exact .inr h
       | bld el c0 =>
         cases c0 with
         | true => exact ih hm (by simpa using hls) (by simpa using hlv) hba h hnd hbs hfree
         | false =>
         obtain ⟨⟨k, u, b, rfl, hbox, rfl⟩, hba'⟩ := hba
         have hsplit : ∃ (x : List Int) (r' : TupR (ps.filter isBox)) (b1 b2 : List Nat), bs = b1 ++ b2 ∧ ShC P w G.im (.bld el false) x [.pointer (some ⟨b, 0, none⟩)] b1 ∧ ShL P w G.im (ps.filter isBox) r' (uob_ ps vals) b2 ∧
          mkL ((Sh.bld el false :: ps).filter isBox) r n = mkC (.bld el false) x n :: mkL (ps.filter isBox) r' (n + 2) := by
          have h : ShL P w G.im ([Sh.bld el false] ++ ps.filter isBox) r ([.pointer (some ⟨b, 0, none⟩)] ++ uob_ ps vals) bs := h
          obtain ⟨b1, b2, e1, h1, h2⟩ := h.split rfl
          obtain ⟨v', e2, h3⟩ := h1
          have e2 : Value.pointer (some ⟨b, 0, none⟩) = v' := by injection e2
          subst e2
          refine ⟨_, _, b1, b2, e1, h3, h2, ?_⟩
          exact ubm6_ (a := [Sh.bld el false]) (b := ps.filter isBox) (x := r) (n := n)
         obtain ⟨x, r', b1, b2, rfl, h1, h2, h3⟩ := hsplit
         have hnd' := List.nodup_append.1 hnd
         have hcnt : cntL ((Sh.bld el false :: ps).filter isBox) = 2 + cntL (ps.filter isBox) := rfl
         rw [hcnt] at hfree ⊢
         obtain ⟨G1, m1⟩ := ih (n := n + 2) hm (by simpa using hls) (by simpa using hlv) hba' h2 hnd'.2.1 (fun b hb => hbs b (List.mem_append_right _ hb)) (fun k h1 h2 => hfree k (by omega) (by omega))
         obtain ⟨b0, cells, el', p, q, bs', e1, rfl, q1, hlay, q2, hp, q4, q5, q6⟩ := h1
         have hb0 : b0 = b := by
          injection e1 with e1 _
          injection e1 with e1
          injection e1 with e1
          injection e1 with e1 _ _
          exact e1.symm
         subst hb0
         have hndc := List.nodup_cons.1 hnd'.1
         have hfr : ∀ b' ∈ b0 :: bs', fr.owned b' ∧ ∀ j o, ucj_ σ (un9_ ps ss (mkL (ps.filter isBox) r' (n + 2))) j = some o → blk G1 j o ≠ some b' := fun b' hb' =>
          ⟨(hbs b' (List.mem_append_left _ hb')).1, fun j o ho hb2 => by
            rcases m1.own j o b' ho hb2 with h | ⟨j', o', h3, h4⟩
            · exact hnd'.2.2 b' hb' b' h rfl
            · exact (hbs b' (List.mem_append_left _ hb')).2 j' o' h3 h4⟩
         have hown : ShC P w G1.im (.own el (.int .u8) true) x [q] bs' := by
          rw [m1.im]
          rcases q6 with ⟨rfl, k1, k2⟩ | ⟨g, cap, gc, rfl, k1, k2, k3, k4, k5, k6, k7⟩
          · exact .inl ⟨rfl, k1, k2⟩
          · exact .inr ⟨g, cap, gc, rfl, k1, k2, k3, k4, k5, (fun _ => k6), (fun h => by cases h), k7⟩
         obtain ⟨G2, m2, r2, f2⟩ := ubym_ (n := n + 1) m1.mem hown (fun b' hb' => hfr b' (List.mem_cons_of_mem _ hb')) (fun k h1 h2 => by
          have h2 : k < n + 1 + 1 := h2
          exact ⟨hfree k (by omega) (by omega), by omega⟩)
         have hcnt2 : (Sh.own el (.int .u8) true).cnt = 1 := rfl
         rw [hcnt2] at m2
         have him : G2.im = G.im := m2.im.trans m1.im
         have hle := m1.le.trans m2.le
         have hbox2 : G2.box k = some (b0, bldTy) := hle.box _ _ hbox
         have hno : ∀ j o', ucj_ (ucj_ σ (un9_ ps ss (mkL (ps.filter isBox) r' (n + 2)))) (mkC (.own el (.int .u8) true) x (n + 1)).obs j = some o' → blk G2 j o' ≠ some b0 := by
          intro j o' ho hb2
          rcases m2.own j o' b0 ho hb2 with h | ⟨j', o2, h3, h4⟩
          · exact hndc.1 h
          · exact (hfr b0 List.mem_cons_self).2 j' o2 h3 h4
         have hsz : cells.size = 2 := by rw [← Array.length_toList, q2]; rfl
         have hback := m2.mem.back (wr := true) (k := k) (b := b0) (t := bldTy) (c := .pr (.slf k) (.obj (n + 1) 0)) hbox2
          ⟨b0, cells, el', hbox2, q1, hsz, ⟨_, _, rfl, rfl, f2⟩, ⟨[p], [q], q2, ⟨b0, bldTy, hbox2, by rcases hp with rfl | rfl <;> simp⟩, r2⟩, ⟨fun _ o => by rw [him]; exact q4 o, fun h => by cases h⟩, by rw [him]; exact q5, (hfr b0 List.mem_cons_self).1, fun _ => hlay⟩ hno
         have eobs : un9_ (.bld el false :: ps) (.ptr k [] u :: ss) (mkL ((Sh.bld el false :: ps).filter isBox) r n) =
          ([(k, some (.box bldTy (.pr (.slf k) (.obj (n + 1) 0)) true))] ++ (mkC (.own el (.int .u8) true) x (n + 1)).obs) ++ un9_ ps ss (mkL (ps.filter isBox) r' (n + 2)) := by
          rw [h3]; rfl
         refine ⟨G2, hle, him, ?_, ?_⟩
         · rw [eobs, ubg_, ubg_]
           exact hback.shrink fun j hj => ⟨⟨hj.1, fun e => hj.2 ⟨by omega, by omega⟩⟩, fun e => hj.2 ⟨by omega, by omega⟩⟩
         · intro j o b' hj hb'
           rw [eobs, ubg_, ubg_, ue8_] at hj
           by_cases e : j = k
           · rw [if_pos e] at hj; cases hj; subst e
             simp only [blk, hbox2, Option.map_some, Option.some.injEq] at hb'
             subst hb'
             exact .inl (List.mem_append_left _ List.mem_cons_self)
           · rw [if_neg e] at hj
             rcases m2.own j o b' hj hb' with h | ⟨j', o', h3, h4⟩
             · exact .inl (List.mem_append_left _ (List.mem_cons_of_mem _ h))
             · rcases m1.own j' o' b' h3 h4 with h | h
               · exact .inl (List.mem_append_right _ h)
               · exact .inr h
       | _ => exact ih hm (by simpa using hls) (by simpa using hlv) hba h hnd hbs hfree
end
end Go.Ev
namespace Go.Ev
variable [Pins]
theorem ub37_ : ∀ (a b : List Sh), cntL (a ++ b) = cntL a + cntL b := by
 intro a b
 induction a with
 | nil => simp [cntL]
 | cons s a ih => simp only [List.cons_append, cntL, ih]; omega
section
variable {P : Program} {fr : Fr} {free free' : Nat → Prop} {self : Nat} {σ σ' : Nat → Option Obj} {w w' : World} {G G' : Gh} {I : Im}
theorem BoxArgs.mono : ∀ {l : List Sh} {ss : List SV} {vs : List Value}, BoxArgs G l ss vs → (∀ k b, G.box k = some b → G'.box k = some b) → (∀ k g v, G.val k g = some v → G'.val k g = some v) → (∀ k t, G.ety k = some t → G'.ety k = some t) → BoxArgs G' l ss vs := by
 intro l
 induction l with
 | nil => intro ss vs _ _ _ _; cases ss <;> exact trivial
 | cons a l ih =>
   intro ss vs h hb hv he
   cases ss with
   | nil => cases a <;> first | exact trivial | (rename_i el0 c0; cases c0 <;> exact trivial)
   | cons s ss =>
     cases vs with
     | nil => cases a <;> first | exact trivial | (rename_i el0 c0; cases c0 <;> exact trivial)
     | cons v vs =>
       cases a with
       | box c =>
         obtain ⟨⟨k, u, b, h1, h2, h3⟩, h4⟩ := h
         exact ⟨⟨k, u, b, h1, hb _ _ h2, h3⟩, ih h4 hb hv he⟩
       | io el t =>
         obtain ⟨h1, h2⟩ := h
         refine ⟨h1.imp (fun ⟨k, e1, e2, e3⟩ => ⟨k, e1, hv _ _ _ e2, he _ _ e3⟩) id, ih h2 hb hv he⟩
       | bld el c =>
         cases c with
         | true => exact ih h hb hv he
         | false =>
           obtain ⟨⟨k, u, b, h1, h2, h3⟩, h4⟩ := h
           exact ⟨⟨k, u, b, h1, hb _ _ h2, h3⟩, ih h4 hb hv he⟩
       | _ => exact ih h hb hv he
theorem ub5v_ (hm : MemS P fr free σ w G) {fs : Nat → Option FSpec} : ∀ {l : List Sh} {svs : List SV} {x : TupR l} {vs : List Value}, ubzr_ fs σ l svs = some x →
 (∀ (j : Nat) (s : SV) (v : Value), svs[j]? = some s → vs[j]? = some v → SR P w G s v) → BoxArgs G l svs vs := by
 intro l
 induction l with
 | nil => intro svs x vs _ _; cases svs <;> exact trivial
 | cons a l ih =>
   intro svs x vs h hs
   cases svs with
   | nil => cases a <;> first | exact trivial | (rename_i el0 c0; cases c0 <;> exact trivial)
   | cons s svs =>
     cases vs with
     | nil => cases a <;> first | exact trivial | (rename_i el0 c0; cases c0 <;> exact trivial)
     | cons v vs =>
       have h0 := hs 0 s v rfl rfl
       have hrest : BoxArgs G l svs vs := by
        cases l with
        | nil => cases svs <;> exact trivial
        | cons b l =>
          rw [ubhs_] at h
          split at h
          · rename_i x1 x2 h1 h2
            exact ih h2 (fun j s v h1 h2 => hs (j + 1) s v (by simpa using h1) (by simpa using h2))
          · cases h
       have hfirst : ∃ y, ub3u_ fs σ a s = some y := by
        cases l with
        | nil =>
          cases svs with
          | nil => exact ⟨x, h⟩
          | cons _ _ => cases h
        | cons b l =>
          rw [ubhs_] at h
          split at h
          · rename_i x1 x2 h1 h2
            exact ⟨x1, h1⟩
          · cases h
       cases a with
       | box c =>
         refine ⟨?_, hrest⟩
         obtain ⟨y, hy⟩ := hfirst
         have hy : ubpj_ σ c s = some y := hy
         unfold ubpj_ at hy
         split at hy
         · rename_i k u
           split at hy
           · rename_i t cv hk
             cases hts : t.same c.ty with
             | false => rw [hts] at hy; cases hy
             | true =>
               have et := Ty.same_eq hts
               subst et
               obtain ⟨b, cells, el, k1, k2, _⟩ := hm.objs _ _ hk
               obtain ⟨cc, hc, b', t', o, j1, j2, _, j4⟩ := h0
               rw [k1] at j1
               cases j1
               have ho : o = 0 := by
                have : Ty.off c.ty [] = some o := j2
                cases hc : c.ty <;> rw [hc] at this <;> exact (Option.some.inj this).symm
               subst ho
               have hv : [v] = [Value.pointer (some ⟨b, 0, none⟩)] := (show cc = [v] from hc).symm.trans j4
               exact ⟨_, _, b, rfl, k1, List.singleton_inj.1 hv⟩
           · cases hy
         · cases hy
       | io el t =>
         refine ⟨?_, hrest⟩
         obtain ⟨y, hy⟩ := hfirst
         replace hy : uyx_ σ el t true s = some y := hy
         unfold uyx_ at hy
         split at hy
         · rename_i k g
           split at hy
           · rename_i id' t' xs g' w1 hk
             cases hb : (Nat.beq g 0 && Nat.beq g g' && (Nat.beq el id' && (bif true then w1 else !w1))) with
             | false => rw [hb] at hy; cases hy
             | true =>
               rw [hb] at hy
               have hy : Ty.cast? (.slice t') (.slice t) xs = some y := hy
               simp only [Bool.and_eq_true] at hb
               have e0 := Nat.eq_of_beq_eq_true hb.1.1
               have e1 := Nat.eq_of_beq_eq_true hb.1.2
               subst e0 e1
               obtain ⟨et, _⟩ := Ty.cast?_some hy
               have et' : t' = t := by injection et
               subst et'
               obtain ⟨k1, v', k2, _⟩ := hm.objs _ _ hk
               have hv := ubxn_ h0
               exact .inl ⟨k, rfl, hv, k1⟩
           · cases hy
         · obtain ⟨cc, hc, h1⟩ := h0
           have h1 : cc = [.slice none 0 0] := h1
           have hv : v = .slice none 0 0 := List.singleton_inj.1 ((show cc = [v] from hc).symm.trans h1)
           exact .inr ⟨rfl, hv⟩
         · cases hy
       | bld el c =>
         cases c with
         | true => exact hrest
         | false =>
         refine ⟨?_, hrest⟩
         obtain ⟨y, hy⟩ := hfirst
         replace hy : ubpi_ σ el s = some y := hy
         unfold ubpi_ at hy
         split at hy
         · rename_i k u
           split at hy
           · rename_i t cv hk
             cases hts : t.same bldTy with
             | false => rw [hts] at hy; cases hy
             | true =>
               have et := Ty.same_eq hts
               subst et
               obtain ⟨b, cells, el, k1, k2, _⟩ := hm.objs _ _ hk
               obtain ⟨cc, hc, b', t', o, j1, j2, _, j4⟩ := h0
               rw [k1] at j1
               cases j1
               have ho : o = 0 := (Option.some.inj j2).symm
               subst ho
               have hv : [v] = [Value.pointer (some ⟨b, 0, none⟩)] := (show cc = [v] from hc).symm.trans j4
               exact ⟨_, _, b, rfl, k1, List.singleton_inj.1 hv⟩
           · cases hy
         · cases hy
       | _ => exact hrest
theorem ub7r_ {m : Mk} {vs : List Value} {rv : Value} (h : retIs vs rv) (hl : vs.length = 1) (hs : ∀ (j : Nat) (m' : Mk) (v : Value), [m][j]? = some m' → vs[j]? = some v → SR P w G m'.sv v) : SR P w G m.sv rv := by
 cases vs with
 | nil => cases hl
 | cons v vs =>
   have : vs = [] := List.eq_nil_of_length_eq_zero (by simpa using hl)
   subst this
   have h : rv = v := h
   rw [h]
   exact hs 0 m v rfl rfl
theorem ub0b_ {ms : List Mk} {vs : List Value} {rv : Value} (h : retIs vs rv) (hl : vs.length = ms.length) (hn : ms.length ≠ 1) (hs : ∀ (j : Nat) (m' : Mk) (v : Value), ms[j]? = some m' → vs[j]? = some v → SR P w G m'.sv v) :
 SR P w G (.tup (SV.ofList (ms.map (·.sv)))) rv := by
 have hrv : rv = .tuple vs.toArray := by
  cases vs with
  | nil => exact h
  | cons v vs =>
    cases vs with
    | nil => exact absurd hl.symm hn
    | cons _ _ => exact h
 rw [hrv]
 refine ⟨_, rfl, vs.toArray, rfl, ?_⟩
 refine ub8z_ (by simp [hl]) fun j s v h1 h2 => ?_
 rw [List.getElem?_map] at h1
 cases hm : ms[j]? with
 | none => rw [hm] at h1; cases h1
 | some m =>
   rw [hm] at h1
   cases h1
   exact hs j m v hm h2
def resOf (ms : List Mk) : SV := match ms with
 | [m] => m.sv
 | _ => .tup (SV.ofList (ms.map (·.sv)))
theorem ub5w_ {ms : List Mk} {vs : List Value} {rv : Value} (h : retIs vs rv) (hl : vs.length = ms.length) (hs : ∀ (j : Nat) (m' : Mk) (v : Value), ms[j]? = some m' → vs[j]? = some v → SR P w G m'.sv v) : SR P w G (resOf ms) rv := by
 cases ms with
 | nil => exact ub0b_ h hl (by simp) hs
 | cons m ms =>
   cases ms with
   | nil => exact ub7r_ h hl hs
   | cons m2 ms => exact ub0b_ h hl (by simp) hs
def imRO (σ : Nat → Option Obj) (G : Gh) : Im :=
 ⟨fun b o => G.im.cell b o ∨ ∃ k t c, σ k = some (.box t c true) ∧ G.box k = some (b, t) ∧ o < t.sz, G.im.obj⟩
theorem ubyo_ (w : World) : Ext w G.im w (imRO σ G) := ⟨fun _ _ h => ⟨.inl h, rfl⟩, fun _ h => ⟨h, rfl⟩⟩
theorem ub9x_ (hm : MemS P fr free σ w G) : Mem w (imRO σ G) := by
 refine ⟨fun b o h => ?_, fun b h => hm.after.mem.2.1 b h, hm.after.pins.ext (ubyo_ w)⟩
 rcases h with h | ⟨k, t, c, h1, h2, _⟩
 · exact hm.after.mem.1 b o h
 · obtain ⟨b', cs, el, k1, k2, _⟩ := hm.objs _ _ h1
   rw [k1] at h2
   cases h2
   exact (Array.getElem?_eq_some_iff.1 k2).1
theorem ub9y_ (hm : MemS P fr free σ w G) {t : Ty} {s : SV} {x : t.T} {v : Value} (h : roArg σ t s = some x) (hr : SR P w G s v) : VRel w (imRO σ G) t x v := by
 unfold roArg at h
 split at h
 · rename_i e k u
   split at h
   · rename_i t' c hk
     cases hs : t'.same e.bare with
     | false => rw [hs] at h; cases h
     | true =>
       rw [hs] at h
       simp only [cond_true] at h
       have et := Ty.same_eq hs
       cases hc : c.asC σ e with
       | none => rw [hc] at h; cases h
       | some y =>
         rw [hc] at h
         cases h
         obtain ⟨b, cells, el, k1, k2, k3, k4, k5, _⟩ := hm.objs _ _ hk
         obtain ⟨cc, hcc, b', t2, o, j1, j2, _, j4⟩ := hr
         rw [k1] at j1
         cases j1
         have ho : o = 0 := by
          have : Ty.off t' [] = some o := j2
          cases hc : t' <;> rw [hc] at this <;> exact (Option.some.inj this).symm
         subst ho
         have hsz : t'.sz = e.sz := by rw [et, Ty.sz_bare]
         refine ⟨cc, hcc, ⟨b, 0, none⟩, j4, rfl, cells.toList, ⟨by rw [Array.length_toList, k3, hsz], fun j hj => ?_⟩, (ub7c_ (fun k o h => hm.objs k o h) hc k5).ext (ubyo_ w)⟩
         refine ⟨.inr ⟨k, t', c, hk, k1, by rw [hsz]; simpa using hj⟩, ?_⟩
         show World.cell? w ⟨b, 0 + j, none⟩ = _
         simp [World.cell?, k2]
   · cases h
 · obtain ⟨c, h1, h2⟩ := ubmz_ (fun k o h => hm.objs k o h) h hr
   exact ⟨c, h1, h2.ext (ubyo_ w)⟩
theorem ucbb_ (hm : MemS P fr free σ w G) {s : Sh} {sv : SV} {x : s.T} {v : Value} (h : roS σ s sv = some x) (hr : SR P w G sv v) : ShV P w (imRO σ G) s x v [] := by
 cases s with
 | val t => exact ⟨ub9y_ hm h hr, rfl⟩
 | _ => cases h
theorem ub9z_ {a b : Sh} {r : List Sh} {v : SV} {vs : List SV} : roL σ (a :: b :: r) (v :: vs) = (match roS σ a v, roL σ (b :: r) vs with
 | some x, some y => some (x, y)
 | _, _ => none) := rfl
theorem ucca_ (hm : MemS P fr free σ w G) : ∀ {l : List Sh} {svs : List SV} {x : TupR l} {vs : List Value}, roL σ l svs = some x → svs.length = vs.length →
 (∀ (j : Nat) (s : SV) (v : Value), svs[j]? = some s → vs[j]? = some v → SR P w G s v) → ShL P w (imRO σ G) l x vs [] := by
 intro l
 induction l with
 | nil =>
   intro svs x vs h hl hs
   cases svs with
   | nil => exact ⟨List.eq_nil_of_length_eq_zero hl.symm, rfl⟩
   | cons _ _ => cases h
 | cons a l ih =>
   intro svs x vs h hl hs
   cases svs with
   | nil => cases l <;> cases h
   | cons s svs =>
     cases vs with
     | nil => cases hl
     | cons v vs =>
       have h0 := hs 0 s v rfl rfl
       cases l with
       | nil =>
         cases svs with
         | nil =>
           have : vs = [] := List.eq_nil_of_length_eq_zero (by simpa using hl.symm)
           subst this
           exact ⟨v, rfl, ucbb_ hm h h0⟩
         | cons _ _ => cases h
       | cons b l =>
         rw [ub9z_] at h
         split at h
         · rename_i x1 x2 h1 h2
           cases h
           exact ⟨v, vs, [], [], rfl, rfl, ucbb_ hm h1 h0, ih h2 (by simpa using hl) fun j s v h3 h4 => hs (j + 1) s v (by simpa using h3) (by simpa using h4)⟩
         · cases h
theorem ub5x_ {I : Im} {t : Ty} {x : t.T} {v : Value} (hf : t.lit = true) (h : VRel w' I t x v) : SR P w' G (.val t x) v := by
 obtain ⟨c, h1, h2⟩ := h
 refine ⟨c, h1, ?_⟩
 cases t with
 | bool => exact h2
 | int k => exact h2
 | str => exact h2
 | _ => cases hf
theorem ucbc_ {I : Im} : ∀ {l : List Sh} {x : TupR l} {vs : List Value} {bs : List Nat} {n : Nat}, ubzt_ l = true → ShL P w' I l x vs bs →
 (mkL l x n).length = l.length ∧ ∀ (j : Nat) (m : Mk) (v : Value), (mkL l x n)[j]? = some m → vs[j]? = some v → SR P w' G m.sv v := by
 intro l
 induction l with
 | nil => intro x vs bs n _ _; exact ⟨rfl, fun j m v h => by cases h⟩
 | cons a l ih =>
   intro x vs bs n hf h
   cases a with
   | val t =>
     simp only [ubzt_, Bool.and_eq_true] at hf
     cases l with
     | nil =>
       obtain ⟨v, rfl, h1, _⟩ := h
       refine ⟨rfl, fun j m v' hj hv => ?_⟩
       cases j with
       | zero => cases hj; cases hv; exact ub5x_ hf.1 h1
       | succ j => cases hj
     | cons b l =>
       obtain ⟨v, vs', b1, b2, rfl, _, ⟨h1, _⟩, h2⟩ := h
       obtain ⟨i1, i2⟩ := ih (n := (mkC (.val t) x.1 n).nx) hf.2 h2
       refine ⟨by simp only [mkL, List.length_cons, i1], fun j m v' hj hv => ?_⟩
       cases j with
       | zero => cases hj; cases hv; exact ub5x_ hf.1 h1
       | succ j => exact i2 j m v' (by simpa [mkL] using hj) (by simpa using hv)
   | _ => cases hf
theorem After.flat {I1 I2 : Im} (ha : After (· ∈ ([] : List Nat)) w I1 w' I2) (he : Ext w I w I1) (hm : Mem w I) : After (· ∈ ([] : List Nat)) w I w' I :=
 have hx : Ext w I w' I := ⟨fun b o h => ⟨h, (ha.ext.cell b o (he.cell b o h).1).2⟩, fun b h => ⟨h, (ha.ext.obj b (he.obj b h).1).2⟩⟩
 ⟨hx, ha.heap, ha.size, fun _ _ h => .inl h, fun _ h => .inl h,
  fun b o h => Nat.lt_of_lt_of_le (hm.1 b o h) ha.size, fun b h => Nat.lt_of_lt_of_le (hm.2.1 b h) ha.size, ha.os, ha.tape, ha.output,
  hm.2.2.ext hx⟩
theorem ub7s_ {fs : Nat → Option FSpec} (hE : ∀ f sp, fs f = some sp → uo_ P f ∧ FunOK P f sp) (hD : fr.dr = true → ∀ f sp, fs f = some sp → sp.dr = true) (hm : MemS P fr free σ w G) (hσ : ∀ k o, σ' k = some o → σ k = some o) (hfree : ∀ k, self ≤ k → k < self + 8 → free k)
 {f : Nat} {args : List SV} {vals : List Value} {r : OpRes} {u : Upd} (hlen : args.length = vals.length) (hs : ∀ (j : Nat) (s : SV) (v : Value), args[j]? = some s → vals[j]? = some v → SR P w G s v)
 (hr : ub9d_ fs σ' self f args = some r) (hu : Gives r u) :
 uo_ P f ∧ Calls P f vals.toArray w fun e w' => ∃ v, e = .returned v ∧ Res P fr free self σ w G u v w' ∧ (fr.dr = true → w.drawn ≤ w'.drawn) := by
 unfold ub9d_ at hr
 split at hr
 · rename_i sp hsp
   obtain ⟨hent, hfun⟩ := hE _ _ hsp
   · split at hr
     · rename_i v hv0
       have hcv : Nat.ble (cntL (sp.rs ++ sp.ps.filter isBox)) 8 = true ∧ ubzs_ fs σ' sp.ps args = some v := by
        cases hc : Nat.ble (cntL (sp.rs ++ sp.ps.filter isBox)) 8 with
        | false => rw [hc] at hv0; cases hv0
        | true => rw [hc] at hv0; exact ⟨rfl, hv0⟩
       obtain ⟨hc, hv⟩ := hcv
       have hcnt := Nat.le_of_ble_eq_true hc
       rw [ub37_] at hcnt
       cases hr
       obtain ⟨y, hy, rfl⟩ := hu.may_inv
       have hm' := hm.sub hσ
       obtain ⟨bs, p1, p2, p3⟩ := ubtn_ hm' hE hv hlen hs
       have hpl : ubzr_ fs σ' sp.ps args = some v := by
        unfold ubzs_ at hv
        cases hd : u54_ (keysL σ' sp.ps args) with
        | false => rw [hd] at hv; cases hv
        | true => rw [hd] at hv; exact hv
       have hba := ub5v_ hm' hpl hs
       have hplen : ∀ {l : List Sh} {svs : List SV} {x : TupR l}, ubzr_ fs σ' l svs = some x → svs.length = l.length := by
        intro l
        induction l with
        | nil => intro svs x h; cases svs with
          | nil => rfl
          | cons _ _ => cases h
        | cons a l ih =>
          intro svs x h
          cases svs with
          | nil => cases l <;> cases h
          | cons s svs =>
            cases l with
            | nil => cases svs with
              | nil => rfl
              | cons _ _ => cases h
            | cons b l =>
              rw [ubhs_] at h
              split at h
              · rename_i x1 x2 h1 h2
                simp [ih h2]
              · cases h
       have hal := hplen hpl
       refine ⟨hent, Calls.mono (hfun w G.im v vals bs hm.after.mem p1 p2 y hy) fun e w' hq => ?_⟩
       obtain ⟨rv, vs, I', bs', rfl, hvl, hret, haft, hres, hnd', hown, qd⟩ := hq
       refine ⟨rv, rfl, ?_, fun h => qd (hD h _ _ hsp)⟩
       have p3' : BlksOf σ G (keysL σ' sp.ps args) bs := fun b hb => let ⟨k, h1, o, h2, h3⟩ := p3 b hb; ⟨k, h1, o, hσ k o h2, h3⟩
       obtain ⟨g1, g2⟩ := hm.called p3' haft
       obtain ⟨b1, b2, rfl, r1, r2⟩ := hres.split hvl
       have hndp := List.nodup_append.1 hnd'
       have hbk : ∀ b ∈ b1 ++ b2, fr.owned b ∧ ∀ j o, ucj_ σ (gone (keysL σ' sp.ps args)) j = some o → blk { G with im := I' } j o ≠ some b := by
        intro b hb
        refine ⟨?_, fun j o ho hbj => ?_⟩
        · rcases hown b hb with h | h
          · obtain ⟨k, _, o, ho, hbo⟩ := p3' b h
            exact ubhu_ (hm.objs k o ho) hbo
          · exact .inl (Nat.le_trans hm.after.size h)
        · have ho' : j ∉ keysL σ' sp.ps args ∧ σ j = some o := by
           rw [ubht_] at ho
           by_cases hj : j ∈ keysL σ' sp.ps args
           · rw [if_pos hj] at ho; cases ho
           · rw [if_neg hj] at ho; exact ⟨hj, ho⟩
          have hbj0 : blk G j o = some b := by rw [← uyy_ (hm.objs j o ho'.2) g1]; exact hbj
          rcases hown b hb with h | h
          · obtain ⟨k, hk, o2, ho2, hbo⟩ := p3' b h
            have := hm.sep j k o o2 b ho'.2 ho2 hbj0 hbo
            subst this
            exact ho'.1 hk
          · have := ubz0_ (hm.objs j o ho'.2) hbj0
            omega
       obtain ⟨G2, m2⟩ := ub5u_ (ps := sp.ps) (ss := args) (vals := vals) (n := self + cntL sp.rs) g2 hal (by omega) (by
        exact hba.mono (fun k b h => h) (fun k g v h => h) (fun k t h => h)) r2 hndp.2.1 (fun b hb => hbk b (List.mem_append_right _ hb)) (fun k h1 h2 => hfree k (by omega) (by omega))
       obtain ⟨G3, m3, e1, e2, e3⟩ := ub9w_ (l := sp.rs) (n := self) m2.mem (by rw [m2.im]; exact r1) hndp.1 (fun b hb => ⟨(hbk b (List.mem_append_left _ hb)).1, fun j o ho hb2 => by
        rcases m2.own j o b ho hb2 with h | ⟨j', o', h3, h4⟩
        · exact hndp.2.2 b hb b h rfl
        · exact (hbk b (List.mem_append_left _ hb)).2 j' o' h3 h4⟩) (fun k h1 h2 => ⟨hfree k h1 (by omega), by omega⟩)
       have hsplit := ubm6_ (a := sp.rs) (b := sp.ps.filter isBox) (x := y) (n := self)
       have htake : (mkL (sp.rs ++ sp.ps.filter isBox) y self).take sp.rs.length = mkL sp.rs (ubyn_ sp.rs (sp.ps.filter isBox) y).1 self := by
        rw [hsplit, List.take_left' e2]
       have hdrop : (mkL (sp.rs ++ sp.ps.filter isBox) y self).drop sp.rs.length = mkL (sp.ps.filter isBox) (ubyn_ sp.rs (sp.ps.filter isBox) y).2 (self + cntL sp.rs) := by
        rw [hsplit, List.drop_left' e2]
       refine ⟨G3, (g1.trans m2.le).trans m3.le, ?_, ?_⟩
       · show MemS P fr _ (ucj_ σ ((((mkL (sp.rs ++ sp.ps.filter isBox) y self).take sp.rs.length).flatMap (·.obs)) ++ (un9_ sp.ps args ((mkL (sp.rs ++ sp.ps.filter isBox) y self).drop sp.rs.length) ++ gone (keysL σ' sp.ps args)))) w' G3
         rw [htake, hdrop, ubg_, ubg_]
         refine m3.mem.shrink fun j hj => ?_
         have hns : ¬ (self ≤ j ∧ j < self + 8) := fun h => by
          have := hj.2
          simp only [ubr7_, Bool.and_eq_false_iff] at this
          rcases this with h1 | h1
          · rw [Nat.ble_eq_true_of_le h.1] at h1; cases h1
          · rw [show Nat.blt j (self + 8) = true from Nat.ble_eq_true_of_le h.2] at h1; cases h1
         exact ⟨⟨hj.1, fun e => hns ⟨by omega, by omega⟩⟩, fun e => hns ⟨by omega, by omega⟩⟩
       · show SR P w' G3 (resOf ((mkL (sp.rs ++ sp.ps.filter isBox) y self).take sp.rs.length)) rv
         rw [htake]
         exact ub5w_ hret (by rw [hvl, e2]) e3
     · split at hr
       · rename_i v hv
         cases hr
         obtain ⟨y, hy, rfl⟩ := hu.may_inv
         cases hfl : ubzt_ sp.rs with
         | false => rw [hfl] at hv; cases hv
         | true =>
           rw [hfl] at hv
           have hv : roL σ' sp.ps args = some v := hv
           have hm' := hm.sub hσ
           have p1 := ucca_ hm' hv hlen hs
           refine ⟨hent, Calls.mono (hfun w (imRO σ' G) v vals [] (ub9x_ hm') p1 .nil y hy) fun e w' hq => ?_⟩
           obtain ⟨rv, vs, I', bs', rfl, hvl, hret, haft, hres, _, _, qd⟩ := hq
           refine ⟨rv, rfl, ?_, fun h => qd (hD h _ _ hsp)⟩
           have haft2 := haft.flat (ubyo_ w) hm.after.mem
           obtain ⟨g1, g2⟩ := hm.called (ks := []) (bs := []) (fun b hb => by cases hb) haft2
           obtain ⟨b1, b2, rfl, r1, r2⟩ := hres.split hvl
           obtain ⟨f1, f2⟩ := ucbc_ (G := { G with im := G.im }) (n := self) hfl r1
           have hsplit := ubm6_ (a := sp.rs) (b := sp.ps.filter isBox) (x := y) (n := self)
           have htake : (mkL (sp.rs ++ sp.ps.filter isBox) y self).take sp.rs.length = mkL sp.rs (ubyn_ sp.rs (sp.ps.filter isBox) y).1 self := by
            rw [hsplit, List.take_left' f1]
           refine ⟨_, g1, g2.shrink fun j hj => hj.1, ?_⟩
           show SR P w' { G with im := G.im } (resOf ((mkL (sp.rs ++ sp.ps.filter isBox) y self).take sp.rs.length)) rv
           rw [htake]
           exact ub5w_ hret (by rw [hvl, f1]) f2
       · cases hr
 · cases hr
end
end Go.Ev
namespace Go.Ev
variable [Pins]
section
variable {P : Program} {fr : Fr} {free free' : Nat → Prop} {self : Nat} {σ σ' : Nat → Option Obj} {w w' : World} {G G' : Gh} {I : Im}
theorem ub3a_ {o : Oper} {a : Act} {fo : Operand} {as : Array Operand} {ts : Array TypeId} (ho : o.op = .call ⟨.value fo, as, ts⟩) {f : Nat} {caps : Array Value} (hf : a.eval fo = .func (.func f) #[] caps) (he : uo_ P f) :
 (execOp a.eval o).run P w = .ok (.enter f (as.map a.eval ++ caps)) w := by
 obtain ⟨fn, c, h1, h2, h3⟩ := he
 have h2' : fn.name ≠ "runtime.NumGoroutine" := by simpa using h2
 have : (callFunc f (as.map a.eval ++ caps)).run P w = .ok (.enter f (as.map a.eval ++ caps)) w := by simp [callFunc, h1, h2', h3]
 simp [execOp, ho, resolve, hf, Deferred.ofValue, invoke, this]
theorem ub7t_ : ∀ {l : SV} {vs : List Value}, CR P w G l vs → l.list.length ≤ vs.length → ∀ (j : Nat) (s : SV) (v : Value), l.list[j]? = some s → vs[j]? = some v → SR P w G s v := by
 intro l
 induction l with
 | scons a b iha ihb =>
   intro vs h hl j s v hj hv
   obtain ⟨v', r, rfl, ⟨c, h2, h3⟩, h4⟩ := h
   cases j with
   | zero =>
     have e1 : a = s := by simpa [SV.list] using hj
     have e2 : v' = v := by simpa using hv
     subst e1 e2
     exact ⟨c, h2, h3⟩
   | succ j => exact ihb h4 (by simpa [SV.list] using hl) j s v (by simpa [SV.list] using hj) (by simpa using hv)
 | _ => intro vs h hl j s v hj; simp [SV.list] at hj
theorem ub5y_ : ∀ {l : SV} {vs : List Value}, CR P w G l vs → ub1d_ l = true → l.list.length = vs.length := by
 intro l
 induction l with
 | snil => intro vs h _; have h : vs = [] := h; rw [h]; rfl
 | scons a b iha ihb =>
   intro vs h hk
   obtain ⟨v', r, rfl, _, h4⟩ := h
   simp [SV.list, ihb h4 hk]
 | _ => intro vs h hk; cases hk
theorem ub1y_ {σ : Nat → Option Obj} (ho : ∀ k o, σ k = some o → ObjOK P fr w G k o) : ∀ {d : Ty} {l : List SV} {x : d.T} {vs : List Value}, ubtm_ σ d l = some x → l.length = vs.length →
 (∀ (j : Nat) (s : SV) (v : Value), l[j]? = some s → vs[j]? = some v → SR P w G s v) → ArgsV w G.im d x vs := by
 have one : ∀ {d : Ty} {l : List SV} {x : d.T} {vs : List Value}, (match l with | [s] => s.asV σ d | _ => none) = some x → l.length = vs.length →
  (∀ (j : Nat) (s : SV) (v : Value), l[j]? = some s → vs[j]? = some v → SR P w G s v) → ∃ v, vs = [v] ∧ VRel w G.im d x v := by
  intro d l x vs h hl hs
  rcases l with _ | ⟨s, _ | ⟨_, _⟩⟩ <;> first | (cases h; done) | skip
  rcases vs with _ | ⟨v, _ | ⟨_, _⟩⟩ <;> first | (cases hl; done) | skip
  exact ⟨v, rfl, ubmz_ ho h (hs 0 s v rfl rfl)⟩
 intro d
 induction d with
 | prod a b iha ihb =>
   intro l x vs h hl hs
   cases l with
   | nil => cases h
   | cons s r =>
     cases vs with
     | nil => cases hl
     | cons v vs =>
       simp only [ubtm_] at h
       split at h
       · rename_i y z h1 h2
         cases h
         exact ⟨v, vs, rfl, ubmz_ ho h1 (hs 0 s v rfl rfl), ihb h2 (by simpa using hl) fun j s v h1 h2 => hs (j + 1) s v (by simpa using h1) (by simpa using h2)⟩
       · cases h
 | _ =>
   intro l x vs h hl hs
   refine one ?_ hl hs
   rcases l with _ | ⟨s, _ | ⟨_, _⟩⟩ <;> exact h
theorem ub5z_ {fs : Nat → Option FSpec} (hE : ∀ f sp, fs f = some sp → uo_ P f ∧ FunOK P f sp) (hD : fr.dr = true → ∀ f sp, fs f = some sp → sp.dr = true) {dr : Bool} (hdr : fr.dr = true → dr = true) (hm : MemS P fr free σ w G) (hσ : ∀ k o, σ' k = some o → σ k = some o) (hfree : ∀ k, self ≤ k → k < self + 8 → free k)
 {o : Oper} {a : Act} {fo : Operand} {as : Array Operand} {ts : Array TypeId} (ho : o.op = .call ⟨.value fo, as, ts⟩) {sf : SV} (hsf : SR P w G sf (a.eval fo)) {args : List SV} {r : OpRes} {u : Upd}
 (hlen : args.length = as.toList.length) (hs : ∀ (j : Nat) (s : SV) (x : Operand), args[j]? = some s → as.toList[j]? = some x → SR P w G s (a.eval x)) (hr : ub46_ dr fs σ' self sf args = some r) (hu : Gives r u) :
 Done P fr.dr o a w (Res P fr free self σ w G u) := by
 unfold ub46_ at hr
 split at hr
 · rename_i f caps
   cases hk : ub1d_ caps with
   | false => rw [hk] at hr; cases hr
   | true =>
     rw [hk] at hr
     obtain ⟨cc, hcc, vs, h1, h2⟩ := hsf
     have hf : a.eval fo = .func (.func f) #[] vs := List.singleton_inj.1 ((show cc = [a.eval fo] from hcc).symm.trans h1)
     have hcl := ub5y_ h2 hk
     have hall : ∀ (j : Nat) (s : SV) (v : Value), (args ++ caps.list)[j]? = some s → (as.toList.map a.eval ++ vs.toList)[j]? = some v → SR P w G s v := by
      intro j s v hj hv
      by_cases hlt : j < args.length
      · rw [List.getElem?_append_left hlt] at hj
        rw [List.getElem?_append_left (by rw [List.length_map, ← hlen]; exact hlt), List.getElem?_map] at hv
        cases hx : as.toList[j]? with
        | none => rw [hx] at hv; cases hv
        | some x =>
          rw [hx] at hv
          cases hv
          exact hs j s x hj hx
      · have hle : args.length ≤ j := Nat.le_of_not_lt hlt
        rw [List.getElem?_append_right hle] at hj
        rw [List.getElem?_append_right (by rw [List.length_map, ← hlen]; exact hle), List.length_map, ← hlen] at hv
        exact ub7t_ h2 (by omega) _ s v hj hv
     obtain ⟨he, hcall⟩ := ub7s_ hE hD hm hσ hfree (vals := as.toList.map a.eval ++ vs.toList) (by simp [hlen, hcl]) hall hr hu
     refine Done.enter (ub3a_ ho hf he) ?_
     have e : (as.toList.map a.eval ++ vs.toList).toArray = as.map a.eval ++ vs := by
      apply Array.ext'
      simp
     rw [e] at hcall
     exact hcall
 · rename_i nd d c F
   cases hnd : (!dr || nd) with
   | false => rw [hnd] at hr; cases hr
   | true =>
   rw [hnd] at hr
   simp only [cond_true] at hr
   split at hr
   · rename_i x hx
     cases hr
     obtain ⟨y, hy, rfl⟩ := hu.may_inv
     obtain ⟨cc, hcc, f, vs, h1, he, h2⟩ := hsf
     have hf : a.eval fo = .func (.func f) #[] vs := List.singleton_inj.1 ((show cc = [a.eval fo] from hcc).symm.trans h1)
     have hv := ub1y_ (fun k o h => hm.objs k o (hσ k o h)) hx (vs := as.toList.map a.eval) (by simp [hlen]) (fun j s v hj hv => by
      rw [List.getElem?_map] at hv
      cases hx : as.toList[j]? with
      | none => rw [hx] at hv; cases hv
      | some x =>
        rw [hx] at hv
        cases hv
        exact hs j s x hj hx)
     refine Done.enter (ub3a_ ho hf he) ?_
     have hargs : as.map a.eval ++ vs = (as.toList.map a.eval).toArray ++ vs := by
      apply Array.ext'
      simp
     rw [hargs]
     refine Calls.mono (h2 w G.im (Ext.refl _ _) hm.after.mem x _ hv y hy) fun e w' hq => ?_
     obtain ⟨rv, I', rfl, ha, hrv, qd⟩ := hq
     obtain ⟨g1, g2⟩ := hm.called (ks := []) (bs := []) (fun b hb => by cases hb) (ha.mono fun b hb => absurd hb id)
     exact ⟨rv, rfl, ⟨_, g1, g2.shrink fun _ h => h.1, hrv⟩, fun h => qd (by have := hdr h; subst this; simpa using hnd)⟩
   · cases hr
 · cases hr
theorem ub38_ {o : Oper} {a : Act} {r : Operand} {m : String} {as : Array Operand} {ts : Array TypeId} (ho : o.op = .call ⟨.invoke r m, as, ts⟩) (has : as.toList = []) {id : Nat} {v : Value} (hv : a.eval r = .iface id v)
 {f : Nat} (hm : (method (P.types.size + Made.depth) id v m).run P w = .ok (f, v) w) (he : uo_ P f) : (execOp a.eval o).run P w = .ok (.enter f #[v]) w := by
 obtain ⟨fn, c, h1, h2, h3⟩ := he
 have h2' : fn.name ≠ "runtime.NumGoroutine" := by simpa using h2
 have hc : (callFunc f #[v]).run P w = .ok (.enter f #[v]) w := by simp [callFunc, h1, h2', h3]
 have has' : as = #[] := by apply Array.ext'; simpa using has
 subst has'
 have hcm : (callMethod (.iface id v) m #[]).run P w = .ok (.enter f #[v]) w := by
  simp only [callMethod, Sem.run_bind, run_program, Result.andThen_ok, hm]
  exact hc
 simp [execOp, ho, resolve, hv, invoke, hcm]
theorem ub50_ {fs : Nat → Option FSpec} (hE : ∀ f sp, fs f = some sp → uo_ P f ∧ FunOK P f sp) {D : Prop} (hD : D → ∀ f sp, fs f = some sp → sp.dr = true) {mt : Nat → Option Nat} {m : String}
 (hM : ∀ id f, mt id = some f → ∀ (v : Value) (w : World), (method (P.types.size + Made.depth) id v m).run P w = .ok (f, v) w) {c : Ty} (hw : Mem w G.im) :
 ∀ {u : Ty} {F : u.T → Option c.T} {x : u.T} {y : c.T} {v : Value}, ub2z_ fs mt c u = some F → F x = some y → Rel w G.im u x [v] →
 ∃ id v' f, v = .iface id v' ∧ (method (P.types.size + Made.depth) id v' m).run P w = .ok (f, v') w ∧ uo_ P f ∧
  Calls P f #[v'] w fun e w' => ∃ rv I', e = .returned rv ∧ After noGv w G.im w' I' ∧ VRel w' I' c y rv ∧ (D → w.drawn ≤ w'.drawn) := by
 intro u
 induction u with
 | inil => intro F x y v h hy _; cases h; cases hy
 | ialt id t r _ ihr =>
   intro F x y v h hy hr
   unfold ub2z_ at h
   split at h
   · rename_i f hf
     cases hip : ub4z_ t with
     | true => rw [hip] at h; cases h
     | false =>
     rw [hip] at h
     simp only [cond_false] at h
     split at h
     · rename_i F1 F2 h1 h2
       cases h
       cases x with
       | inl z =>
         obtain ⟨v', cs, e1, e2, e3⟩ := hr
         have hh := ub5t_ (P := P) (w := w) (G := G) (fr := ⟨noGv, w, G.im, fun _ => none, false⟩) (σ := fun _ => none) (D := D) (fun k o h => by cases h) hE (fun h => .inr ⟨hD h, fun _ _ _ _ he => by cases he⟩) h1 (cs := [.func (.func f) #[] #[]]) ⟨#[], rfl, rfl⟩
         obtain ⟨f', vs', e4, hent, hcall⟩ := hh
         cases e4
         have ha : ArgsV w G.im t z [v'] := by
          have : ∃ v, [v'] = [v] ∧ VRel w G.im t z v := ⟨v', rfl, cs, e2, e3⟩
          cases t with
          | prod a b => cases hip
          | _ => exact this
         have := hcall w G.im (Ext.refl _ _) hw z [v'] ha y hy
         exact ⟨id, v', f, List.singleton_inj.1 e1, hM id f hf v' w, hent, this⟩
       | inr z => exact ihr h2 hy hr.2
     · cases h
   · cases h
 | _ => intro F x y v h; cases h
theorem ub39_ {fs : Nat → Option FSpec} (hE : ∀ f sp, fs f = some sp → uo_ P f ∧ FunOK P f sp) (hD : fr.dr = true → ∀ f sp, fs f = some sp → sp.dr = true) {mt : String → Nat → Option Nat}
 (hM : ∀ m id f, mt m id = some f → ∀ (v : Value) (w : World), (method (P.types.size + Made.depth) id v m).run P w = .ok (f, v) w) (hm : MemS P fr free σ w G)
 {o : Oper} {a : Act} {ro : Operand} {m : String} {as : Array Operand} {ts : Array TypeId} (ho : o.op = .call ⟨.invoke ro m, as, ts⟩) (has : as.toList = []) {s : SV} (hs : SR P w G s (a.eval ro)) {c : Ty} {r : OpRes} {u : Upd}
 (hr : ub1h_ fs mt c m s = some r) (hu : Gives r u) : Done P fr.dr o a w (Res P fr free self σ w G u) := by
 unfold ub1h_ at hr
 split at hr
 · rename_i ut x
   split at hr
   · rename_i F hF
     cases hr
     obtain ⟨y, hy, rfl⟩ := hu.may_inv
     obtain ⟨cs, h1, h2⟩ := hs
     have hcs : cs = [a.eval ro] := by
      cases ut with
      | ialt _ _ _ => exact h1
      | inil => exact h1
      | _ => cases hF
     subst hcs
     obtain ⟨tid, v', f, hv, hmt, hent, hcall⟩ := ub50_ hE hD (hM m) hm.after.mem hF hy h2
     refine Done.enter (ub38_ ho has hv hmt hent) ?_
     refine Calls.mono hcall fun e w' hq => ?_
     obtain ⟨rv, I', rfl, ha, hrv, qd⟩ := hq
     obtain ⟨g1, g2⟩ := hm.called (ks := []) (bs := []) (fun b hb => by cases hb) (ha.mono fun b hb => absurd hb id)
     exact ⟨rv, rfl, ⟨_, g1, g2.shrink fun _ h => h.1, hrv⟩, qd⟩
   · cases hr
 · cases hr
end
end Go.Ev
namespace Go.Ev
variable [Pins]
section
variable {P : Program} {fr : Fr} {free free' : Nat → Prop} {self : Nat} {σ σ' : Nat → Option Obj} {w w' : World} {G G' : Gh} {I : Im}
theorem Done.calm {o : Oper} {a : Act} {u : Upd} (hm : MemS P fr free σ w G) (h : u.wr = [] ∧ ∃ z, (execOp a.eval o).run P w = .ok (.value z) w ∧ SR P w G u.sv z) : Done P fr.dr o a w (Res P fr free self σ w G u) := by
 obtain ⟨h1, z, h2, h3⟩ := h
 obtain ⟨sv, wr⟩ := u
 have h1 : wr = [] := h1
 subst h1
 exact Done.value h2 (Res.same hm h3)
theorem Done.makes {o : Oper} {a : Act} {u : Upd} (h : ∃ z w', (execOp a.eval o).run P w = .ok (.value z) w' ∧ Res P fr free self σ w G u z w') : Done P fr.dr o a w (Res P fr free self σ w G u) := by
 obtain ⟨z, w', h2, h3⟩ := h
 exact Done.value h2 h3
theorem Done.writes {o : Oper} {a : Act} {u : Upd} (h : ∃ w', (execOp a.eval o).run P w = .ok .skip w' ∧ Res P fr free self σ w G u undef w') : Done P fr.dr o a w (Res P fr free self σ w G u) := by
 obtain ⟨w', h2, h3⟩ := h
 exact Done.skip h2 h3
end
end Go.Ev
namespace Go.Ev
variable [Pins]
section
variable {P : Program} {fr : Fr} {free free' : Nat → Prop} {self : Nat} {σ σ' : Nat → Option Obj} {w w' : World} {G G' : Gh} {I : Im}
theorem ub90_ {a t : Ty} {g : a.T → t.T} (h : castF a t = some g) {y : a.T} {v : Value} (hr : VRel w I a y v) : VRel w I t (g y) v := by
 unfold castF at h
 split at h
 · rename_i hs
   have e := Ty.same_eq hs
   subst e
   have h := Option.some.inj h
   subst h
   exact hr
 · cases h
theorem ub51_ {id : Nat} {t : Ty} : ∀ {u : Ty} {f : u.T → Option t.T} {y : u.T} {v : Value}, ubxk_ id t u = some f → Rel w I u y [v] →
 (f y = none ∧ (v = .nilIface ∨ ∃ j x, v = .iface j x ∧ j ≠ id)) ∨ ∃ q x, f y = some q ∧ v = .iface id x ∧ VRel w I t q x := by
 intro u
 induction u with
 | inil =>
   intro f y v h hr
   have h := Option.some.inj h
   subst h
   have hr : [v] = [.nilIface] := hr
   exact .inl ⟨rfl, .inl (List.singleton_inj.1 hr)⟩
 | ialt j a r iha ihr =>
   intro f y v h hr
   simp only [ubxk_] at h
   split at h
   · rename_i fr hfr
     cases hb : Nat.beq id j with
     | true =>
       rw [hb] at h
       simp only [cond_true] at h
       have e := Nat.eq_of_beq_eq_true hb
       subst e
       split at h
       · rename_i g hg
         have h := Option.some.inj h
         subst h
         cases y with
         | inl z =>
           obtain ⟨x, c, h1, h2, h3⟩ := hr
           exact .inr ⟨g z, x, rfl, List.singleton_inj.1 h1, ub90_ hg ⟨c, h2, h3⟩⟩
         | inr z => exact ihr hfr hr.2
       · cases h
     | false =>
       rw [hb] at h
       simp only [cond_false] at h
       have h := Option.some.inj h
       subst h
       cases y with
       | inl z =>
         obtain ⟨x, c, h1, h2, h3⟩ := hr
         refine .inl ⟨rfl, .inr ⟨j, x, List.singleton_inj.1 h1, fun e => ?_⟩⟩
         rw [e, Nat.beq_refl] at hb; cases hb
       | inr z => exact ihr hfr hr.2
   · cases h
 | _ => intro f y v h; cases h
theorem ub0c_ {id : Nat} {t u : Ty} {f : u.T → Option t.T} {y : u.T} {v : Value} (h : ubxk_ id t u = some f) (hr : VRel w I u y v) : Rel w I u y [v] := by
 obtain ⟨c, h1, h2⟩ := hr
 have : c = [v] := by
  cases u <;> first | exact h1 | cases h
 rw [← this]; exact h2
theorem Lay.conc {t : Ty} {id : Nat} (hl : Lay P t id) (ht : t.isIface = false) : ∃ d, P.underlying id = some d ∧ ∀ ms, d ≠ .interface ms := by
 cases t with
 | bool => exact ⟨_, hl.bool, fun _ h => by cases h⟩
 | int k => exact ⟨_, hl.int, fun _ h => by cases h⟩
 | str => exact ⟨_, hl.str, fun _ h => by cases h⟩
 | slice e => obtain ⟨_, h, _⟩ := hl.slice; exact ⟨_, h, fun _ h => by cases h⟩
 | agg p => obtain ⟨_, h, _⟩ := hl.agg; exact ⟨_, h, fun _ h => by cases h⟩
 | arr n e => obtain ⟨_, h, _⟩ := hl.arr; exact ⟨_, h, fun _ h => by cases h⟩
 | ptr e => obtain ⟨_, h, _⟩ := hl.ptr; exact ⟨_, h, fun _ h => by cases h⟩
 | map a b => obtain ⟨_, _, h, _⟩ := hl.map; exact ⟨_, h, fun _ h => by cases h⟩
 | self => obtain ⟨_, h⟩ := hl.self; exact ⟨_, h, fun _ h => by cases h⟩
 | unit => simp [Lay, layB] at hl
 | prod a b => simp [Lay, layB] at hl
 | inil => simp [Ty.isIface] at ht
 | ialt i a r =>
   obtain ⟨_, d, hd, hc⟩ := uzo_ hl
   split at hc
   · rw [hc] at ht; cases ht
   · cases hc
theorem ub0d_ {t u : Ty} {id xt : Nat} (hl : Lay P t id) (ht : t.isIface = false) {f : u.T → Option t.T} {y : u.T} {v : Value} (hf : ubxk_ id t u = some f) (hv : VRel w G.im u y v) :
 ∃ z, (Instr.typeAssert v xt id true).run P w = .ok z w ∧ SR P w G (.tup (.scons (.val t ((f y).getD t.dflt)) (.scons (.val .bool (f y).isSome) .snil))) z := by
 obtain ⟨d, hd, hn⟩ := hl.conc ht
 obtain ⟨zv, hz, hzr⟩ := ubt8_ (P := P) (w := w) (G := G) hl
 rcases ub51_ hf (ub0c_ hf hv) with ⟨h1, h2⟩ | ⟨q, x, h1, rfl, h3⟩
 · have hrun : (Instr.typeAssert v xt id true).run P w = .ok (.tuple #[zv, .bool false]) w := by
    rcases h2 with rfl | ⟨j, x, rfl, hj⟩
    · cases d <;> first | exact absurd rfl (hn _) | simp [Instr.typeAssert, run_underlying hd, hz]
    · cases d <;> first | exact absurd rfl (hn _) | simp [Instr.typeAssert, run_underlying hd, hz, hj]
   refine ⟨_, hrun, _, rfl, _, rfl, _, _, rfl, ?_, _, _, rfl, ?_, rfl⟩
   · rw [h1]; exact hzr
   · rw [h1]; exact ⟨_, rfl, rfl⟩
 · have hrun : (Instr.typeAssert (.iface id x) xt id true).run P w = .ok (.tuple #[x, .bool true]) w := by
    cases d <;> first | exact absurd rfl (hn _) | simp [Instr.typeAssert, run_underlying hd]
   refine ⟨_, hrun, _, rfl, _, rfl, _, _, rfl, ?_, _, _, rfl, ?_, rfl⟩
   · rw [h1]; exact h3
   · rw [h1]; exact ⟨_, rfl, rfl⟩
end
end Go.Ev
namespace Go.Ev
variable [Pins]
section
variable {P : Program} {fr : Fr} {free free' : Nat → Prop} {self : Nat} {σ σ' : Nat → Option Obj} {w w' : World} {G G' : Gh} {I : Im}
theorem ub1z_ {ps : Array (Nat × Operand)} {ρ : Operand → SV} {a : Act} (h : ∀ p ∈ ps.toList, SR P w G (ρ p.2) (a.eval p.2)) :
 ∀ (j : Nat) (q : Nat × SV) (u : Nat × Value), (ps.toList.map fun p => (p.1, ρ p.2))[j]? = some q → (ps.map fun p => (p.1, a.eval p.2)).toList[j]? = some u → q.1 = u.1 ∧ SR P w G q.2 u.2 := by
 intro j q u h1 h2
 rw [List.getElem?_map] at h1
 rw [Array.toList_map, List.getElem?_map] at h2
 cases hp : ps.toList[j]? with
 | none => rw [hp] at h1; cases h1
 | some p =>
   rw [hp] at h1 h2
   cases h1
   cases h2
   exact ⟨rfl, h p (List.mem_of_getElem? hp)⟩
theorem ub4a_ {t : Ty} {id el ty : Nat} {wf : Bool} (hl : Lay P t id) (hel : ∀ x, P.underlying id = some (.slice x) → el = x) (hm : MemS P fr free σ w G) (hσ : ∀ k o, σ' k = some o → σ k = some o) (hself : free self)
 {s x : SV} {v vx : Value} {r : OpRes} {u : Upd} (hr : ubt0_ σ' wf self el t s x = some r) (hu : Gives r u) (hs : SR P w G s v) (hx : SR P w G x vx) :
 ∃ z w', (Builtin.append_ #[id, id] ty #[v, vx]).run P w = .ok z w' ∧ Res P fr free self σ w G u z w' := by
 have ho : ∀ k o, σ' k = some o → ObjOK P fr w G k o := fun k o h => hm.objs k o (hσ k o h)
 unfold ubt0_ at hr
 split at hr
 · rename_i e
   split at hr
   · rename_i ys hys
     have hv : VRel w G.im (.slice e) ys vx := ubmz_ ho hys hx
     split at hr
     · have hr := Option.some.inj hr
       subst hr
       obtain ⟨zs, hz, rfl⟩ := hu.may_inv
       obtain ⟨c, h1, h2⟩ := hs
       have h2 : c = [.slice none 0 0] := h2
       have hv0 : v = .slice none 0 0 := List.singleton_inj.1 ((show c = [v] from h1).symm.trans h2)
       subst hv0
       exact ubeu_ hl hel hm hself (ubxp_ hl hv) hz
     · rename_i k g
       split at hr
       · rename_i id' e' xs g' w' hk
         cases hg : (Nat.beq g 0 && (Nat.beq g' 0 && Nat.beq el id')) with
         | false => rw [hg] at hr; cases hr
         | true =>
           rw [hg] at hr
           simp only [cond_true] at hr
           simp only [Bool.and_eq_true] at hg
           have e1 := Nat.eq_of_beq_eq_true hg.1
           have e2 := Nat.eq_of_beq_eq_true hg.2.1
           have e3 := Nat.eq_of_beq_eq_true hg.2.2
           subst e1 e2 e3
           split at hr
           · rename_i xs' hxs
             have hr := Option.some.inj hr
             subst hr
             obtain ⟨zs, hz, rfl⟩ := hu.may_inv
             obtain ⟨et, ex⟩ := Ty.cast?_some hxs
             have et' : e' = e := by injection et
             subst et'
             cases ex
             exact ub25_ hl hel hm hself (hσ _ _ hk) hs (ubxp_ hl hv) hz
           · cases hr
       · cases hr
     · cases hr
   · cases hr
 · cases hr
theorem ub10_ {t t' : Ty} {id id2 el ty : Nat} {wf : Bool} (hl : Lay P t id) (hl2 : Lay P t' id2) (hel : ∀ x, P.underlying id = some (.slice x) → el = x) (hm : MemS P fr free σ w G) (hσ : ∀ k o, σ' k = some o → σ k = some o) (hself : free self)
 {s x : SV} {v vx : Value} {r : OpRes} {u : Upd} (hr : ubx6_ σ' wf self el t t' s x = some r) (hu : Gives r u) (hs : SR P w G s v) (hx : SR P w G x vx) :
 ∃ z w', (Builtin.append_ #[id, id2] ty #[v, vx]).run P w = .ok z w' ∧ Res P fr free self σ w G u z w' := by
 unfold ubx6_ at hr
 split at hr
 · rename_i ys
   have hv := ub7k_ hl2 hx
   unfold ubt0_ at hr
   simp only [SV.asV, SV.as] at hr
   split at hr
   · rename_i ys' hys
     obtain ⟨_, ex⟩ := Ty.cast?_some hys
     have ex : uet_ ys = ys' := ex
     subst ex
     split at hr
     · have hr := Option.some.inj hr
       subst hr
       obtain ⟨zs, hz, rfl⟩ := hu.may_inv
       obtain ⟨c, h1, h2⟩ := hs
       have h2 : c = [.slice none 0 0] := h2
       have hv0 : v = .slice none 0 0 := List.singleton_inj.1 ((show c = [v] from h1).symm.trans h2)
       subst hv0
       exact ubeu_ hl hel hm hself hv hz
     · rename_i k g
       split at hr
       · rename_i id' e' xs g' w' hk
         cases hg : (Nat.beq g 0 && (Nat.beq g' 0 && Nat.beq el id')) with
         | false => rw [hg] at hr; cases hr
         | true =>
           rw [hg] at hr
           simp only [cond_true] at hr
           simp only [Bool.and_eq_true] at hg
           have e1 := Nat.eq_of_beq_eq_true hg.1
           have e2 := Nat.eq_of_beq_eq_true hg.2.1
           have e3 := Nat.eq_of_beq_eq_true hg.2.2
           subst e1 e2 e3
           split at hr
           · rename_i xs' hxs
             have hr := Option.some.inj hr
             subst hr
             obtain ⟨zs, hz, rfl⟩ := hu.may_inv
             obtain ⟨et, ex⟩ := Ty.cast?_some hxs
             have et' : e' = .int .u8 := by injection et
             subst et'
             cases ex
             exact ub25_ hl hel hm hself (hσ _ _ hk) hs hv hz
           · cases hr
       · cases hr
     · cases hr
   · cases hr
 · cases hr
theorem uccb_ {E : Env} (hE : EnvOK P fr.dr E) (hm : MemS P fr free σ w G) (hσ : ∀ k o, σ' k = some o → σ k = some o) (hfree : ∀ k, self ≤ k → k < self + 8 → free k) {o : Oper} {a : Act} {ρ ρt ρf : Operand → SV}
 (hρ : (∀ c x y, o.op ≠ .pick c x y) → ∀ x ∈ o.op.operands, SR P w G (ρ x) (a.eval x))
 (hpick : ∀ c x y, o.op = .pick c x y → SR P w G (ρ c) (a.eval c) ∧ (a.eval c = .bool true → SR P w G (ρt x) (a.eval x)) ∧ (a.eval c = .bool false → SR P w G (ρf y) (a.eval y)))
 {r : OpRes} {u : Upd} (hr : opV E ρ ρt ρf σ' self o = some r) (hu : Gives r u) : Done P fr.dr o a w (Res P fr free self σ w G u) := by
 have hself : free self := hfree self (Nat.le_refl _) (by omega)
 have ho : ∀ k o, σ' k = some o → ObjOK P fr w G k o := fun k o h => hm.objs k o (hσ k o h)
 unfold opV at hr
 cases hop : o.op with
 | move x =>
   rw [hop] at hr
   have hr := Option.some.inj hr
   subst hr; rw [hu.v_inv]
   exact Done.calm hm ⟨rfl, _, by simp [execOp, hop], hρ (by simp [hop]) x (by simp [hop, Op.operands])⟩
 | assign x =>
   rw [hop] at hr
   have hr := Option.some.inj hr
   subst hr; rw [hu.v_inv]
   exact Done.calm hm ⟨rfl, _, by simp [execOp, hop], hρ (by simp [hop]) x (by simp [hop, Op.operands])⟩
 | pick c x y =>
   rw [hop] at hr
   obtain ⟨h1, h2, h3⟩ := hpick c x y hop
   obtain ⟨e1, b, e2, e3⟩ := ub7f_ (P := P) (w := w) (G := G) hr hu h1 h2 h3
   exact Done.calm hm ⟨e1, _, by simp [execOp, hop, e2, asBool], e3⟩
 | alloc t =>
   rw [hop] at hr
   simp only at hr
   split at hr
   · rename_i ty hty
     have hr := Option.some.inj hr
     subst hr; rw [hu.pure_inv]
     obtain ⟨z, w', h1, h2⟩ := ub9n_ (hE.ty _ _ hty) hm hself
     exact Done.makes ⟨z, w', by simp [execOp, hop, h1], h2⟩
   · cases hr
 | box t x =>
   rw [hop] at hr
   simp only at hr
   split at hr
   · rename_i ty hty
     split at hr
     · rename_i y hy
       have hr := Option.some.inj hr
       subst hr; rw [hu.pure_inv]
       obtain ⟨z, w', h1, h2⟩ := ucb8_ (id := t) (hE.ty _ _ hty) hm hself hy (hρ (by simp [hop]) x (by simp [hop, Op.operands]))
       exact Done.makes ⟨z, w', by simp [execOp, hop, h1], h2⟩
     · cases hr
   · cases hr
 | load t x =>
   rw [hop] at hr
   simp only at hr
   split at hr
   · rename_i ty hty
     have hex : ∃ wf : Bool, (bif wf then (loadT σ' ty (ρ x)).map OpRes.v else loadO σ' ty (ρ x)) = some r := ⟨_, hr⟩
     clear hr
     obtain ⟨wf, hr⟩ := hex
     cases wf with
     | true =>
       simp only [cond_true] at hr
       cases hl : loadT σ' ty (ρ x) with
       | none => rw [hl] at hr; cases hr
       | some s =>
         rw [hl] at hr
         have hr := Option.some.inj hr
         subst hr; rw [hu.v_inv]
         obtain ⟨z, h1, h2⟩ := ub5m_ (hE.ty _ _ hty) ho hl (hρ (by simp [hop]) x (by simp [hop, Op.operands]))
         exact Done.calm hm ⟨rfl, z, by simp [execOp, hop, h1], h2⟩
     | false =>
     simp only [cond_false] at hr
     have hx := hρ (by simp [hop]) x (by simp [hop, Op.operands])
     unfold loadO at hr
     split at hr
     · rename_i e y he
       cases hs : e.same ty with
       | false => rw [hs] at hr; cases hr
       | true =>
         rw [hs] at hr
         have hr := Option.some.inj hr
         subst hr
         rw [he] at hx
         obtain ⟨z, hz, rfl⟩ := hu.may_inv
         have hz : y = some z := hz
         subst hz
         obtain ⟨c, hc, ad, h2, h3, cc, h4, h5⟩ := hx
         have hv : a.eval x = .pointer (some ad) := List.singleton_inj.1 ((show c = [a.eval x] from hc).symm.trans h2)
         have hsame := Ty.same_eq hs
         subst hsame
         obtain ⟨z', k1, k2⟩ := ub5k_ (P := P) (w := w) (G := G) (hE.ty _ _ hty) (x := z) (v := .pointer (some ad)) ⟨_, rfl, ad, cc, rfl, h3, h4, h5⟩
         exact Done.calm hm ⟨rfl, z', by simp [execOp, hop, hv, k1], k2⟩
     · cases hl : loadAt σ' ty (ρ x) with
       | none => rw [hl] at hr; cases hr
       | some s =>
         rw [hl] at hr
         have hr := Option.some.inj hr
         subst hr; rw [hu.v_inv]
         obtain ⟨z, h1, h2⟩ := ub22_ (hE.ty _ _ hty) ho hl hx
         exact Done.calm hm ⟨rfl, z, by simp [execOp, hop, h1], h2⟩
   · cases hr
 | store t x y =>
   rw [hop] at hr
   simp only at hr
   split at hr
   · rename_i ty hty
     cases hl : storeAt σ' ty (ρ y) (ρ x) with
     | none => rw [hl] at hr; cases hr
     | some s =>
       rw [hl] at hr
       have hr := Option.some.inj hr
       subst hr; rw [hu.pure_inv]
       obtain ⟨k, o'⟩ := s
       obtain ⟨w', h1, h2, h3⟩ := ub5n_ (self := self) (hE.ty _ _ hty) hm hσ hl (hρ (by simp [hop]) x (by simp [hop, Op.operands])) (hρ (by simp [hop]) y (by simp [hop, Op.operands]))
       exact Done.writes ⟨w', by simp [execOp, hop, h1], G, h2, h3, ⟨_, rfl, trivial⟩⟩
   · cases hr
 | extract x i =>
   rw [hop] at hr
   obtain ⟨h1, z, h2, h3⟩ := ub1n_ (P := P) (w := w) (G := G) hr hu (hρ (by simp [hop]) x (by simp [hop, Op.operands]))
   exact Done.calm hm ⟨h1, z, by simp [execOp, hop, h2], h3⟩
 | unOp op t x =>
   rw [hop] at hr
   obtain ⟨h1, z, h2, h3⟩ := uca0_ (P := P) (w := w) (G := G) hr hu (hρ (by simp [hop]) x (by simp [hop, Op.operands]))
   exact Done.calm hm ⟨h1, z, by simp [execOp, hop, h2], h3⟩
 | insert t m k v =>
   rw [hop] at hr
   simp only at hr
   split at hr
   · rename_i ty hty
     obtain ⟨w', h1, h2⟩ := ub5q_ (self := self) (hE.ty _ _ hty) hm hσ hr hu (hρ (by simp [hop]) m (by simp [hop, Op.operands])) (hρ (by simp [hop]) k (by simp [hop, Op.operands])) (hρ (by simp [hop]) v (by simp [hop, Op.operands]))
     exact Done.writes ⟨w', by simp [execOp, hop, h1], h2⟩
   · cases hr
 | mapUpdate t m k v =>
   rw [hop] at hr
   simp only at hr
   split at hr
   · rename_i ty hty
     obtain ⟨w', h1, h2⟩ := ub5q_ (self := self) (hE.ty _ _ hty) hm hσ hr hu (hρ (by simp [hop]) m (by simp [hop, Op.operands])) (hρ (by simp [hop]) k (by simp [hop, Op.operands])) (hρ (by simp [hop]) v (by simp [hop, Op.operands]))
     exact Done.writes ⟨w', by simp [execOp, hop, h1], h2⟩
   · cases hr
 | lookup t m k ok =>
   rw [hop] at hr
   simp only at hr
   split at hr
   · rename_i ty hty
     obtain ⟨h1, z, h2, h3⟩ := ub34_ (hE.ty _ _ hty) ho hr hu (hρ (by simp [hop]) m (by simp [hop, Op.operands])) (hρ (by simp [hop]) k (by simp [hop, Op.operands]))
     exact Done.calm hm ⟨h1, z, by simp [execOp, hop, h2], h3⟩
   · cases hr
 | fieldAddr t x f =>
   rw [hop] at hr
   simp only at hr
   split at hr
   · rename_i p hty
     cases hf : Nat.blt f p.fields with
     | false => rw [hf] at hr; cases hr
     | true =>
       rw [hf] at hr
       rw [Nat.blt_eq] at hf
       cases hl : ubhq_ p f (ρ x) with
       | none => rw [hl] at hr; cases hr
       | some s =>
         rw [hl] at hr
         have hr := Option.some.inj hr
         subst hr; rw [hu.v_inv]
         obtain ⟨z, h2, h3⟩ := ubye_ (hE.ty _ _ hty) hf hl (hρ (by simp [hop]) x (by simp [hop, Op.operands]))
         exact Done.calm hm ⟨rfl, z, by simp [execOp, hop, h2], h3⟩
   · cases hr
 | field t x f =>
   rw [hop] at hr
   simp only at hr
   split at hr
   · rename_i p hty
     cases hf : Nat.blt f p.fields with
     | false => rw [hf] at hr; cases hr
     | true =>
       rw [hf] at hr
       rw [Nat.blt_eq] at hf
       obtain ⟨h1, z, h2, h3⟩ := ub5h_ (hE.ty _ _ hty) hf hr hu (hρ (by simp [hop]) x (by simp [hop, Op.operands]))
       exact Done.calm hm ⟨h1, z, by simp [execOp, hop, h2], h3⟩
   · cases hr
 | indexAddr t x i =>
   rw [hop] at hr
   simp only at hr
   split at hr
   · rename_i ty kd n hty hi
     have hiv := hρ (by simp [hop]) i (by simp [hop, Op.operands])
     rw [hi] at hiv
     obtain ⟨e, _⟩ := hiv.int
     obtain ⟨h1, z, h2, h3⟩ := ubyf_ (k := kd) (hE.ty _ _ hty) ho hr hu (hρ (by simp [hop]) x (by simp [hop, Op.operands]))
     exact Done.calm hm ⟨h1, z, by simp [execOp, hop, e, h2], h3⟩
   · cases hr
 | index t x i =>
   rw [hop] at hr
   simp only at hr
   split at hr
   · rename_i ty kd n hty hi
     have hiv := hρ (by simp [hop]) i (by simp [hop, Op.operands])
     rw [hi] at hiv
     obtain ⟨e, _⟩ := hiv.int
     obtain ⟨h1, z, h2, h3⟩ := ub5f_ (k := kd) (hE.ty _ _ hty) hr hu (hρ (by simp [hop]) x (by simp [hop, Op.operands]))
     exact Done.calm hm ⟨h1, z, by simp [execOp, hop, e, h2], h3⟩
   · cases hr
 | slice t x lo hi mx =>
   rw [hop] at hr
   cases mx with
   | some _ => cases hr
   | none =>
     simp only at hr
     split at hr
     · rename_i ty hty
       have hopt : ∀ b : Option Operand, (∀ y, b = some y → y ∈ o.op.operands) → OptSR P w G (b.map ρ) (b.map a.eval) := by
        intro b hb
        cases b with
        | none => exact trivial
        | some y => exact hρ (by simp [hop]) y (hb y rfl)
       obtain ⟨h1, z, h2, h3⟩ := ub31_ (hE.ty _ _ hty) ho hr hu (hρ (by simp [hop]) x (by simp [hop, Op.operands])) (hopt lo (fun y hy => by simp [hop, Op.operands, hy])) (hopt hi (fun y hy => by simp [hop, Op.operands, hy]))
       exact Done.calm hm ⟨h1, z, by simp [execOp, hop, h2], h3⟩
     · cases hr
 | makeInterface t x =>
   rw [hop] at hr
   simp only at hr
   split at hr
   · rename_i ta tu hta htu
     cases hi : ta.isIface with
     | true => rw [hi] at hr; cases hr
     | false =>
       rw [hi] at hr
       simp only [cond_false] at hr
       split at hr
       · rename_i y hy
         cases hj : ubwe_ t ta y tu with
         | none => rw [hj] at hr; cases hr
         | some z =>
           rw [hj] at hr
           have hr := Option.some.inj hr
           subst hr; rw [hu.v_inv]
           have hv := ubmz_ ho hy (hρ (by simp [hop]) x (by simp [hop, Op.operands]))
           obtain ⟨v, h2, h3⟩ := ubua_ (P := P) (w := w) (G := G) (hE.ty _ _ hta) hi hv hj
           exact Done.calm hm ⟨rfl, v, by simp [execOp, hop, h2], h3⟩
       · cases hr
   · cases hr
 | makeSlice t l c =>
   rw [hop] at hr
   simp only at hr
   split at hr
   · rename_i e x y hty hl hc
     have hr := Option.some.inj hr
     subst hr
     obtain ⟨zs, hz, rfl⟩ := hu.may_inv
     have hlv := hρ (by simp [hop]) l (by simp [hop, Op.operands])
     have hcv := hρ (by simp [hop]) c (by simp [hop, Op.operands])
     rw [hl] at hlv
     rw [hc] at hcv
     obtain ⟨e1, _⟩ := hlv.int
     obtain ⟨e2, e3⟩ := hcv.int
     obtain ⟨z, w', h1, h2⟩ := ub1r_ (wr := (match o.dst with | some d => E.wr d | none => false)) (hE.ty _ _ hty) hm hself e3 hz (fun x hx => hE.el _ _ hx)
     exact Done.makes ⟨z, w', by simp [execOp, hop, e1, e2, h1], h2⟩
   · cases hr
 | makeMap t h =>
   rw [hop] at hr
   simp only at hr
   split at hr
   · rename_i k v hty
     have hcond : ∃ b, (bif b then some (OpRes.pure ⟨.obj self 0, [(self, some (.mp k v [] true))]⟩) else none) = some r ∧ (b = true → ∀ x, h.map a.eval = some x → ∃ kd n, x = .int kd n) := by
      refine ⟨_, hr, fun hb x hx => ?_⟩
      cases h with
      | none => cases hx
      | some y =>
        have hy := hρ (by simp [hop]) y (by simp [hop, Op.operands])
        have hx : a.eval y = x := Option.some.inj hx
        simp only at hb
        split at hb
        · rename_i kd n he
          rw [he] at hy
          exact ⟨kd, n, by rw [← hx]; exact hy.int.1⟩
        · cases hb
     obtain ⟨b, h1, h2⟩ := hcond
     cases b with
     | false => cases h1
     | true =>
       have h1 := Option.some.inj h1
       subst h1; rw [hu.pure_inv]
       obtain ⟨z, w', h3, h4⟩ := ub5o_ (hE.ty _ _ hty) hm hself (h2 rfl)
       exact Done.makes ⟨z, w', by simp [execOp, hop, h3], h4⟩
   · cases hr
 | build t ps =>
   rw [hop] at hr
   simp only at hr
   split at hr
   · rename_i ty hty
     have hex : ∃ wf : Bool, (bif wf then ubtz_ σ' ty (ps.toList.map fun p => (p.1, ρ p.2)) else ub2x_ σ' ty (ps.toList.map fun p => (p.1, ρ p.2))) = some r := ⟨_, hr⟩
     clear hr
     obtain ⟨wf, hr⟩ := hex
     cases wf with
     | true =>
       obtain ⟨h1, z, h2, h3⟩ := ub7j_ (hE.ty _ _ hty) hm hσ hr hu (vs := ps.map fun p => (p.1, a.eval p.2)) (by simp) (ub1z_ fun p hp => hρ (by simp [hop]) p.2 (by simp [hop, Op.operands]; exact ⟨p.1, by simpa using hp⟩))
       exact Done.calm hm ⟨h1, z, by simp [execOp, hop, h2], h3⟩
     | false =>
       obtain ⟨h1, z, h2, h3⟩ := ub9o_ (hE.ty _ _ hty) hm hσ hr hu (vs := ps.map fun p => (p.1, a.eval p.2)) (by simp) (ub1z_ fun p hp => hρ (by simp [hop]) p.2 (by simp [hop, Op.operands]; exact ⟨p.1, by simpa using hp⟩))
       exact Done.calm hm ⟨h1, z, by simp [execOp, hop, h2], h3⟩
   · cases hr
 | buildSlice t len ps =>
   rw [hop] at hr
   simp only at hr
   split at hr
   · rename_i e hty
     split at hr
     · rename_i xs hx
       have hr := Option.some.inj hr
       subst hr; rw [hu.pure_inv]
       cases hz : Nat.beq len 0 with
       | true =>
         rw [hz] at hx
         have e0 := Nat.eq_of_beq_eq_true hz
         subst e0
         simp only [cond_true] at hx
         split at hx
         · rename_i hps
           cases hx
           have eps : ps = #[] := by simpa using hps
           subst eps
           obtain ⟨z, w', h2, h3⟩ := ubz8_ (wr := (match o.dst with | some d => E.wr d | none => false)) (hE.ty _ _ hty) hm hself (fun x hx => hE.el _ _ hx)
           exact Done.makes ⟨z, w', by simp [execOp, hop, h2], h3⟩
         · cases hx
       | false =>
       have hx : (bif Nat.blt 0 len && Nat.ble (len * e.sz) 16777216 then ubep_ σ' e (ps.toList.map fun p => (p.1, ρ p.2)) (List.replicate len e.dflt) else none) = some xs := by
        rw [hz] at hx
        have hpos : Nat.blt 0 len = true := by
         rw [Nat.blt_eq]
         apply Nat.pos_of_ne_zero
         intro e0
         rw [e0] at hz; cases hz
        rw [hpos]
        exact hx
       obtain ⟨z, w', h2, h3⟩ := ubz7_ (wr := (match o.dst with | some d => E.wr d | none => false)) (hE.ty _ _ hty) hm hσ hself hx (vs := ps.map fun p => (p.1, a.eval p.2)) (by simp) (fun x hx => hE.el _ _ hx) (ub1z_ fun p hp => hρ (by simp [hop]) p.2 (by simp [hop, Op.operands]; exact ⟨p.1, by simpa using hp⟩))
       exact Done.makes ⟨z, w', by simp [execOp, hop, h2], h3⟩
     · cases hr
   · cases hr
 | binOp op t x y z =>
   rw [hop] at hr
   simp only at hr
   split at hr
   · rename_i r0 hr0
     have hr := Option.some.inj hr
     subst hr
     obtain ⟨e1, v, e2, e3⟩ := ub7e_ (P := P) (w := w) (G := G) hr0 hu (hρ (by simp [hop]) x (by simp [hop, Op.operands])) (hρ (by simp [hop]) y (by simp [hop, Op.operands])) (fun q hq => hE.ty _ _ hq) x y
     exact Done.calm hm ⟨e1, v, by simp only [execOp, hop, Sem.run_bind] at e2 ⊢; rw [e2]; rfl, e3⟩
   split at hr
   · rename_i r0 hr0
     have hr := Option.some.inj hr
     subst hr
     unfold ub8s_ at hr0
     split at hr0
     · rename_i ty hty
       cases hok : (E.eq t && ucau_ ty) with
       | false => rw [hok] at hr0; cases hr0
       | true =>
         rw [hok] at hr0
         simp only [cond_true] at hr0
         simp only [Bool.and_eq_true] at hok
         split at hr0
         · rename_i xu xv hxu hxv
           split at hr0
           · rename_i bb hbb
             have ha : ∃ p, ty = .agg p := by
              cases ty <;> first | exact ⟨_, rfl⟩ | cases hok.2
             have h1 := as_ok hxu (hρ (by simp [hop]) x (by simp [hop, Op.operands]))
             have h2 := as_ok hxv (hρ (by simp [hop]) y (by simp [hop, Op.operands]))
             obtain ⟨q1, q2⟩ := ub9k_ (op := op) (ox := x) (oy := y) (hE.ty _ _ hty) ha (hE.eq _ _ hok.1 hty) h1 h2 hbb
             cases op <;> simp only [nilR, Option.some.injEq] at hr0 <;> first | (cases hr0; done) | skip
             · subst hr0; rw [hu.v_inv]
               have e2 := q1 rfl
               exact Done.calm hm ⟨rfl, .bool bb, by simp only [execOp, hop, Sem.run_bind] at e2 ⊢; rw [e2]; rfl, SR.mk_bool _⟩
             · subst hr0; rw [hu.v_inv]
               have e2 := q2 rfl
               exact Done.calm hm ⟨rfl, .bool (!bb), by simp only [execOp, hop, Sem.run_bind] at e2 ⊢; rw [e2]; rfl, SR.mk_bool _⟩
           · cases hr0
         · cases hr0
     · cases hr0
   have hcond : ∃ b, (bif b then opBin op (ρ x) (ρ y) else none) = some r ∧ (b = true → ∀ c, ρ x = .val .bool c → P.underlying t = some .bool) := by
    refine ⟨_, hr, fun hb c hc => ?_⟩
    rw [hc] at hb
    simp only at hb
    split at hb
    · rename_i ht; exact (hE.ty _ _ ht).bool
    · cases hb
   obtain ⟨b, h1, h2⟩ := hcond
   cases b with
   | false => cases h1
   | true =>
     obtain ⟨e1, v, e2, e3⟩ := ub9i_ (P := P) (w := w) (G := G) h1 hu (hρ (by simp [hop]) x (by simp [hop, Op.operands])) (hρ (by simp [hop]) y (by simp [hop, Op.operands])) t x y (h2 rfl)
     exact Done.calm hm ⟨e1, v, by simp only [execOp, hop, Sem.run_bind] at e2 ⊢; rw [e2]; rfl, e3⟩
 | makeFunc fn first caps =>
   rw [hop] at hr
   cases fn with
   | func f =>
     simp only at hr
     split at hr
     · rename_i hfirst
       have hr := Option.some.inj hr
       subst hr; rw [hu.v_inv]
       have hf0 : first = #[] := by simpa using hfirst
       subst hf0
       refine Done.calm hm ⟨rfl, .func (.func f) #[] (caps.map a.eval), by simp [execOp, hop, Instr.makeFunc], _, rfl, caps.map a.eval, rfl, ?_⟩
       refine ub8z_ (by simp) fun j s v h1 h2 => ?_
       rw [List.getElem?_map] at h1
       rw [Array.toList_map, List.getElem?_map] at h2
       cases hp : caps.toList[j]? with
       | none => rw [hp] at h1; cases h1
       | some p =>
         rw [hp] at h1 h2
         cases h1
         cases h2
         have hmem := List.mem_of_getElem? hp
         exact hρ (by simp [hop]) p (by simp [hop, Op.operands]; simpa using hmem)
     · cases hr
   | _ => cases hr
 | nilCheck x =>
   rw [hop] at hr
   have hx := hρ (by simp [hop]) x (by simp [hop, Op.operands])
   have fin : ∀ {s : SV} {ad : Addr}, a.eval x = .pointer (some ad) → SR P w G s (.pointer (some ad)) → u = ⟨s, []⟩ → Done P fr.dr o a w (Res P fr free self σ w G u) := by
    intro s ad h1 h2 h3
    subst h3
    exact Done.calm hm ⟨rfl, _, by simp only [execOp, hop, h1]; rfl, h2⟩
   have finF : ∀ {s : SV} {f : Nat} {vs : Array Value}, a.eval x = .func (.func f) #[] vs → SR P w G s (.func (.func f) #[] vs) → u = ⟨s, []⟩ → Done P fr.dr o a w (Res P fr free self σ w G u) := by
    intro s f vs h1 h2 h3
    subst h3
    exact Done.calm hm ⟨rfl, _, by simp only [execOp, hop, h1]; rfl, h2⟩
   simp only at hr
   split at hr
   · rename_i k p q he
     have hr := Option.some.inj hr
     subst hr
     rw [he] at hx
     obtain ⟨b, t, oo, _, _, _, hv⟩ := ubm2_ hx
     exact fin hv (hv ▸ hx) hu.v_inv
   · rename_i k p i q uu he
     have hr := Option.some.inj hr
     subst hr
     rw [he] at hx
     obtain ⟨b, t, oo, n, e, o', _, _, _, _, _, _, hv⟩ := ubyb_ hx
     exact fin hv (hv ▸ hx) hu.v_inv
   · rename_i k g i q uu he
     have hr := Option.some.inj hr
     subst hr
     rw [he] at hx
     obtain ⟨b, len, cap, e, o', _, _, _, _, _, hv⟩ := ubyc_ hx
     exact fin hv (hv ▸ hx) hu.v_inv
   · rename_i t y he
     have hr := Option.some.inj hr
     subst hr
     rw [he] at hx
     obtain ⟨ad, c, hv, _⟩ := ubt5_ hx
     exact fin hv (hv ▸ hx) hu.v_inv
   · rename_i e y he
     have hr := Option.some.inj hr
     subst hr
     rw [he] at hx
     obtain ⟨z, hz, rfl⟩ := hu.may_inv
     have hz : y = some z := hz
     subst hz
     obtain ⟨c, hc, ad, h2, h3, cc, h4, h5⟩ := hx
     have hv : a.eval x = .pointer (some ad) := List.singleton_inj.1 ((show c = [a.eval x] from hc).symm.trans h2)
     exact fin (s := .ref e z) hv ⟨_, rfl, ad, cc, rfl, h3, h4, h5⟩ rfl
   · rename_i f cc he
     have hr := Option.some.inj hr
     subst hr
     rw [he] at hx
     obtain ⟨c, hc, vs, h1, h2⟩ := hx
     have hv : a.eval x = .func (.func f) #[] vs := List.singleton_inj.1 ((show c = [a.eval x] from hc).symm.trans h1)
     exact finF (s := .fn f cc) hv ⟨_, rfl, vs, rfl, h2⟩ hu.v_inv
   · rename_i nd d c F he
     have hr := Option.some.inj hr
     subst hr
     rw [he] at hx
     obtain ⟨cc, hc, f, vs, h1, h2⟩ := hx
     have hv : a.eval x = .func (.func f) #[] vs := List.singleton_inj.1 ((show cc = [a.eval x] from hc).symm.trans h1)
     exact finF (s := .hof nd d c F) hv ⟨_, rfl, f, vs, rfl, h2⟩ hu.v_inv
   · cases hr
 | convert st t x =>
   rw [hop] at hr
   simp only at hr
   have hx := hρ (by simp [hop]) x (by simp [hop, Op.operands])
   split at hr
   · rename_i sy ty hst hty
     have hls := hE.ty _ _ hst
     have hsrc : ∃ d, P.underlying st = some d := let ⟨d, hd, _⟩ := hls.isAgg; ⟨d, hd⟩
     have hlt := hE.ty _ _ hty
     have hex : ∃ wf : Bool, (bif wf then ubt1_ self (E.el t) ty (ρ x) else ubx7_ σ' sy ty (ρ x)) = some r := ⟨_, hr⟩
     clear hr
     obtain ⟨wf, hr⟩ := hex
     cases wf with
     | true =>
       simp only [cond_true] at hr
       unfold ubt1_ at hr
       split at hr
       · rename_i s he
         have hr := Option.some.inj hr
         subst hr; rw [hu.pure_inv]
         rw [he] at hx
         obtain ⟨z, w', h1, h2⟩ := ub1t_ (wr := true) hlt (fun x hx => hE.el _ _ hx) hsrc hm hself hx
         exact Done.makes ⟨z, w', by simp [execOp, hop, h1], h2⟩
       · cases hr
     | false =>
     simp only [cond_false] at hr
     unfold ubx7_ at hr
     split at hr
     · split at hr
       · rename_i s he
         have hr := Option.some.inj hr
         subst hr; rw [hu.v_inv]
         rw [he] at hx
         obtain ⟨z, w', h1, h2⟩ := ubz9_ hlt hsrc hm hx
         exact Done.makes ⟨z, w', by simp [execOp, hop, h1], h2⟩
       · cases hr
     · split at hr
       · rename_i s he
         rw [he] at hx
         obtain ⟨h1, z, h2, h3⟩ := ub27_ (t := .str) hlt hsrc (s := .val .str s) rfl (show Gives (.v (.val .str s)) u from by have := Option.some.inj hr; rw [this]; exact hu) hx
         exact Done.calm hm ⟨h1, z, by simp [execOp, hop, h2], h3⟩
       · cases hs : sy.same (.slice (.int .u8)) with
         | false => rw [hs] at hr; cases hr
         | true =>
           rw [hs] at hr
           have es := Ty.same_eq hs
           subst es
           simp only [cond_true] at hr
           split at hr
           · rename_i xs hxs
             have hr := Option.some.inj hr
             subst hr
             obtain ⟨s, hs', rfl⟩ := hu.may_inv
             obtain ⟨z, h2, h3⟩ := ubyl_ (G := G) hlt hls (ubmz_ ho hxs hx) hs'
             exact Done.calm hm ⟨rfl, z, by simp [execOp, hop, h2], h3⟩
           · cases hr
     · obtain ⟨h1, z, h2, h3⟩ := ub27_ hlt hsrc hr hu hx
       exact Done.calm hm ⟨h1, z, by simp [execOp, hop, h2], h3⟩
   · cases hr
 | typeAssert x xt t ok =>
   rw [hop] at hr
   cases ok with
   | false => cases hr
   | true =>
     simp only at hr
     have hx := hρ (by simp [hop]) x (by simp [hop, Op.operands])
     split at hr
     · rename_i ty uu y hty he
       rw [he] at hx
       cases hi : ty.isIface with
       | true => rw [hi] at hr; cases hr
       | false =>
         rw [hi] at hr
         simp only [cond_false] at hr
         split at hr
         · rename_i f hf
           have hr := Option.some.inj hr
           subst hr; rw [hu.v_inv]
           obtain ⟨z, h2, h3⟩ := ub0d_ (P := P) (w := w) (G := G) (xt := xt) (hE.ty _ _ hty) hi hf hx
           exact Done.calm hm ⟨rfl, z, by simp [execOp, hop, h2], h3⟩
         · cases hr
     · cases hr
 | call c =>
   obtain ⟨cal, as, ts⟩ := c
   rw [hop] at hr
   cases cal with
   | invoke ro m =>
     simp only at hr
     have h1 := hρ (by simp [hop]) ro (by simp [hop, Op.operands, Call.operands])
     split at hr
     · rename_i c has hty
       exact ub39_ hE.fs hE.drs hE.mt hm hop has h1 hr hu
     · cases hr
   | value fo =>
     have h1 := hρ (by simp [hop]) fo (by simp [hop, Op.operands, Call.operands])
     exact ub5z_ hE.fs hE.drs hE.drE hm hσ hfree hop h1 (by simp) (fun j s x hj hx => by
      rw [List.getElem?_map, hx] at hj
      cases hj
      have hmem := List.mem_of_getElem? hx
      exact hρ (by simp [hop]) x (by simp [hop, Op.operands, Call.operands]; right; simpa using hmem)) hr hu
   | builtin b =>
     have hargs : ∀ x ∈ as.toList, SR P w G (ρ x) (a.eval x) := fun x hx => hρ (by simp [hop]) x (by simp [hop, Op.operands, Call.operands]; simpa using hx)
     cases b <;> first | (cases hr; done) | skip
     case append =>
      rcases has : as.toList with _ | ⟨s, _ | ⟨x, _ | ⟨y, rr⟩⟩⟩ <;> simp only [has] at hr <;> first | (cases hr; done) | skip
      rcases hts : ts.toList with _ | ⟨t, _ | ⟨t', _ | ⟨t'', rr⟩⟩⟩ <;> simp only [hts] at hr <;> first | (cases hr; done) | skip
      cases htt : Nat.beq t t' with
      | false =>
        rw [htt] at hr
        simp only [cond_false] at hr
        split at hr
        · rename_i ty ty' hty hty'
          have eas : as = #[s, x] := by apply Array.ext'; simpa using has
          have ets : ts = #[t, t'] := by apply Array.ext'; simpa using hts
          subst eas ets
          obtain ⟨z, w', h1, h2⟩ := ub10_ (ty := o.type) (wf := (match o.dst with | some d => E.wr d | none => false)) (hE.ty _ _ hty) (hE.ty _ _ hty') (fun x hx => hE.el _ _ hx) hm hσ hself hr hu (hargs s (by simp)) (hargs x (by simp))
          exact Done.makes ⟨z, w', by simp [execOp, hop, resolve, invoke, builtin, h1], h2⟩
        · cases hr
      | true =>
        rw [htt] at hr
        have := Nat.eq_of_beq_eq_true htt
        subst this
        simp only [cond_true] at hr
        split at hr
        · rename_i ty hty
          have eas : as = #[s, x] := by apply Array.ext'; simpa using has
          have ets : ts = #[t, t] := by apply Array.ext'; simpa using hts
          subst eas ets
          obtain ⟨z, w', h1, h2⟩ := ub4a_ (ty := o.type) (wf := (match o.dst with | some d => E.wr d | none => false)) (hE.ty _ _ hty) (fun x hx => hE.el _ _ hx) hm hσ hself hr hu (hargs s (by simp)) (hargs x (by simp))
          exact Done.makes ⟨z, w', by simp [execOp, hop, resolve, invoke, builtin, h1], h2⟩
        · cases hr
     case len =>
      rcases has : as.toList with _ | ⟨x, _ | ⟨y, rr⟩⟩ <;> simp only [has] at hr <;> first | (cases hr; done) | skip
      rcases hts : ts.toList with _ | ⟨t, _ | ⟨t', rr⟩⟩ <;> simp only [hts] at hr <;> first | (cases hr; done) | skip
      split at hr
      · rename_i ty hty
        have eas : as = #[x] := by apply Array.ext'; simpa using has
        have ets : ts = #[t] := by apply Array.ext'; simpa using hts
        subst eas ets
        obtain ⟨h1, z, h2, h3⟩ := ub9j_ (hE.ty _ _ hty) ho hr hu (hargs x (by simp)) #[t] rfl o.type
        exact Done.calm hm ⟨h1, z, by simp [execOp, hop, resolve, invoke, builtin, h2], h3⟩
      · cases hr
     case max =>
      rcases has : as.toList with _ | ⟨x, _ | ⟨y, _ | ⟨yy, rr⟩⟩⟩ <;> simp only [has] at hr <;> first | (cases hr; done) | skip
      · have eas : as = #[x, y] := by apply Array.ext'; simpa using has
        subst eas
        split at hr
        · rename_i k m l n hx hy
          have h1 := hargs x (by simp)
          have h2 := hargs y (by simp)
          rw [hx] at h1
          rw [hy] at h2
          obtain ⟨e1, e2⟩ := h1.int
          obtain ⟨e3, e4⟩ := h2.int
          cases hk : u1a_ k l with
          | false => rw [hk] at hr; cases hr
          | true =>
            rw [hk] at hr
            have := u09_ hk
            subst this
            have hr := Option.some.inj hr
            subst hr; rw [hu.v_inv]
            obtain ⟨z, h5, h6⟩ := uca8_ (P := P) (w := w) (G := G) ts o.type e2 e4
            exact Done.calm hm ⟨rfl, z, by simp [execOp, hop, resolve, invoke, builtin, e1, e3, h5], h6⟩
        · cases hr
     case min =>
      rcases has : as.toList with _ | ⟨x, _ | ⟨y, _ | ⟨yy, rr⟩⟩⟩ <;> simp only [has] at hr <;> first | (cases hr; done) | skip
      · have eas : as = #[x, y] := by apply Array.ext'; simpa using has
        subst eas
        split at hr
        · rename_i k m l n hx hy
          have h1 := hargs x (by simp)
          have h2 := hargs y (by simp)
          rw [hx] at h1
          rw [hy] at h2
          obtain ⟨e1, e2⟩ := h1.int
          obtain ⟨e3, e4⟩ := h2.int
          cases hk : u1a_ k l with
          | false => rw [hk] at hr; cases hr
          | true =>
            rw [hk] at hr
            have := u09_ hk
            subst this
            have hr := Option.some.inj hr
            subst hr; rw [hu.v_inv]
            obtain ⟨z, h5, h6⟩ := uca7_ (P := P) (w := w) (G := G) ts o.type e2 e4
            exact Done.calm hm ⟨rfl, z, by simp [execOp, hop, resolve, invoke, builtin, e1, e3, h5], h6⟩
        · cases hr
 | _ => cases hop ▸ hr
end
end Go.Ev
namespace Go.Ev
variable [Pins]
section
variable {P : Program} {fr : Fr} {free free' : Nat → Prop} {self : Nat} {σ σ' : Nat → Option Obj} {w w' : World} {G G' : Gh} {I : Im}
theorem MemS.swap (hm : MemS P fr free σ w G) {k : Nat} {o o' : Obj} (hk : σ k = some o) (ho : ObjOK P fr w G k o') (hb : ∀ b, blk G k o' = some b → blk G k o = some b) :
 MemS P fr free (ucj_ σ [(k, some o')]) w G := by
 refine ⟨fun j p h => ?_, fun i j o1 o2 b' hi hj hbi hbj => ?_, hm.after, fun j hj => ?_⟩
 · rw [ue8_] at h
   by_cases e : j = k
   · rw [if_pos e] at h; cases h; subst e; exact ho
   · rw [if_neg e] at h; exact hm.objs j p h
 · rw [ue8_] at hi hj
   by_cases e1 : i = k <;> by_cases e2 : j = k
   · rw [e1, e2]
   · rw [if_pos e1] at hi; rw [if_neg e2] at hj
     cases hi; subst e1
     exact hm.sep i j o o2 b' hk hj (hb _ hbi) hbj
   · rw [if_neg e1] at hi; rw [if_pos e2] at hj
     cases hj; subst e2
     exact hm.sep i j o1 o b' hi hk hbi (hb _ hbj)
   · rw [if_neg e1] at hi; rw [if_neg e2] at hj
     exact hm.sep i j o1 o2 b' hi hj hbi hbj
 · have hf := hm.fresh j hj
   refine ⟨?_, hf.2⟩
   rw [ue8_, if_neg (fun e => ?_)]
   · exact hf.1
   · subst e; rw [hf.1] at hk; cases hk
theorem ucbd_ (hm : MemS P fr free σ w G) {k : Nat} {o : Obj} (hk : σ k = some o) : ∃ G', GLe w G w G' ∧ MemS P fr free (ucj_ σ [(k, some (u3d_ o))]) w G' := by
 have hsame : ∀ {o' : Obj}, σ k = some o' → ∃ G', GLe w G w G' ∧ MemS P fr free (ucj_ σ [(k, some o')]) w G' := fun {o'} h =>
  ⟨G, GLe.refl _ _, hm.swap h (hm.objs k o' h) fun _ h => h⟩
 have hfresh : ∀ j, free j → j ≠ k ∧ free j ∧ G.ety j = none ∧ G.box j = none ∧ ∀ g, G.val j g = none := by
  intro j hj
  have hf := hm.fresh j hj
  exact ⟨fun e => (by subst e; rw [hf.1] at hk; cases hk), hj, hf.2⟩
 cases o with
 | box t c wr =>
   cases wr with
   | false => exact hsame hk
   | true =>
     obtain ⟨b, cs, el, q1, q2, q3, q4, q5, q6, q7, q8⟩ := hm.objs k _ hk
     let G' : Gh := { G with im := ⟨fun b' off => G.im.cell b' off ∨ (b' = b ∧ off < t.sz), G.im.obj⟩ }
     have hle : GLe w G w G' := ⟨⟨fun _ _ h => ⟨.inl h, rfl⟩, fun _ h => ⟨h, rfl⟩⟩, fun _ _ _ h => h, fun _ _ h => h, fun _ _ h => h⟩
     refine ⟨G', hle, hm.change (b := b) hle (fun j o' hj ho' hb => hj (hm.sep j k o' _ b ho' hk hb (by simp [blk, q1]))) (fun _ _ _ => rfl) (Nat.le_refl _) (u7f_ q2) q8.1
      (fun b' off h => h.imp id fun h => h.1) (fun _ h => .inl h) rfl rfl rfl (fun o' ho' => ?_) hfresh⟩
     cases ho'
     exact ⟨⟨b, cs, el, q1, q2, q3, q4, q5.mono hle, ⟨(fun h => by cases h), fun _ off h => .inr ⟨rfl, h⟩⟩, q7, q8⟩, .inl (by simp [blk, u3d_, G', q1])⟩
 | sl el t xs g wr =>
   cases wr with
   | false => exact hsame hk
   | true =>
     obtain ⟨h0, v, h1, h2⟩ := hm.objs k _ hk
     rcases h2 with ⟨rfl, rfl⟩ | ⟨b, cap, cs, rfl, q1, q2, q3, q4, q5, q6, q7, q8⟩
     · exact ⟨G, GLe.refl _ _, hm.swap hk ⟨h0, _, h1, .inl ⟨rfl, rfl⟩⟩ fun b hb => by simp [u3d_, blk, h1] at hb⟩
     · let G' : Gh := { G with im := ⟨fun b' off => G.im.cell b' off ∨ (b' = b ∧ off < xs.length * t.sz), G.im.obj⟩ }
       have hle : GLe w G w G' := ⟨⟨fun _ _ h => ⟨.inl h, rfl⟩, fun _ h => ⟨h, rfl⟩⟩, fun _ _ _ h => h, fun _ _ h => h, fun _ _ h => h⟩
       refine ⟨G', hle, hm.change (b := b) hle (fun j o' hj ho' hb => hj (hm.sep j k o' _ b ho' hk hb (by simp [blk, h1]))) (fun _ _ _ => rfl) (Nat.le_refl _) (q2.lt) q5
        (fun b' off h => h.imp id fun h => h.1) (fun _ h => .inl h) rfl rfl rfl (fun o' ho' => ?_) hfresh⟩
       cases ho'
       refine ⟨⟨h0, _, h1, .inr ⟨b, cap, cs, rfl, q1, q2, q3, fun i x hx => (q4 i x hx).ext hle.ext, q5, (fun h => by cases h), fun _ off => ⟨fun h => .inr ⟨rfl, h⟩, fun h => ?_⟩, q8⟩⟩, .inl (by simp [blk, u3d_, G', h1])⟩
       rcases h with h | h
       · exact absurd h (q6 rfl off)
       · exact h.2
 | mp a c es wr =>
   cases wr with
   | false => exact hsame hk
   | true =>
     obtain ⟨v, h1, b, ents, clock, rfl, q1, q2, q3, q4, q5, q6⟩ := hm.objs k _ hk
     let G' : Gh := { G with im := ⟨G.im.cell, fun b' => G.im.obj b' ∨ b' = b⟩ }
     have hle : GLe w G w G' := ⟨⟨fun _ _ h => ⟨h, rfl⟩, fun _ h => ⟨.inl h, rfl⟩⟩, fun _ _ _ h => h, fun _ _ h => h, fun _ _ h => h⟩
     refine ⟨G', hle, hm.change (b := b) hle (fun j o' hj ho' hb => hj (hm.sep j k o' _ b ho' hk hb (by simp [blk, h1]))) (fun _ _ _ => rfl) (Nat.le_refl _) (u7f_ q1) q6
      (fun b' off h => .inl h) (fun b' h => h) rfl rfl rfl (fun o' ho' => ?_) hfresh⟩
     cases ho'
     exact ⟨⟨_, h1, b, ents, clock, rfl, q1, q2, fun i x e hx he => ⟨(q3 i x e hx he).1.ext hle.ext, (q3 i x e hx he).2.ext hle.ext⟩, ⟨(fun h => by cases h), fun _ => .inr rfl⟩, q5, q6⟩, .inl (by simp [blk, u3d_, G', h1])⟩
theorem ub11_ (o : Obj) : u3d_ (u3d_ o) = u3d_ o := by cases o <;> rfl
theorem ub91_ : ∀ {fz : List (Nat × Option Obj)} {G : Gh}, MemS P fr free σ w G → (∀ p ∈ fz, ∃ o, σ p.1 = some o ∧ p.2 = some (u3d_ o)) → ∃ G', GLe w G w G' ∧ MemS P fr free (ucj_ σ fz) w G' := by
 intro fz
 induction fz with
 | nil => intro G hm _; exact ⟨G, GLe.refl _ _, hm⟩
 | cons p r ih =>
   intro G hm h
   obtain ⟨G1, h1, h2⟩ := ih hm fun q hq => h q (List.mem_cons_of_mem _ hq)
   obtain ⟨k, x⟩ := p
   obtain ⟨o, ho, hx⟩ := h (k, x) List.mem_cons_self
   have hx : x = some (u3d_ o) := hx
   have ho : σ k = some o := ho
   subst hx
   have hk : ∃ o1, ucj_ σ r k = some o1 ∧ u3d_ o1 = u3d_ o := by
    have : ∀ (r : List (Nat × Option Obj)), (∀ p ∈ r, ∃ o, σ p.1 = some o ∧ p.2 = some (u3d_ o)) → ∃ o1, ucj_ σ r k = some o1 ∧ u3d_ o1 = u3d_ o := by
     intro r
     induction r with
     | nil => intro _; exact ⟨o, ho, rfl⟩
     | cons q r ih2 =>
       intro hr
       obtain ⟨j, y⟩ := q
       obtain ⟨o', ho', hy⟩ := hr (j, y) List.mem_cons_self
       have hy : y = some (u3d_ o') := hy
       have ho' : σ j = some o' := ho'
       subst hy
       by_cases e : k = j
       · subst e
         rw [ho] at ho'
         cases ho'
         exact ⟨u3d_ o, by simp [ucj_, Nat.beq_refl], ub11_ o⟩
       · obtain ⟨o1, a1, a2⟩ := ih2 fun q hq => hr q (List.mem_cons_of_mem _ hq)
         refine ⟨o1, ?_, a2⟩
         simp only [ucj_]
         rw [show Nat.beq k j = false by rw [← Bool.not_eq_true]; exact fun hh => e (Nat.eq_of_beq_eq_true hh)]
         exact a1
    exact this r fun q hq => h q (List.mem_cons_of_mem _ hq)
   obtain ⟨o1, a1, a2⟩ := hk
   obtain ⟨G2, h3, h4⟩ := ucbd_ h2 a1
   refine ⟨G2, h1.trans h3, ?_⟩
   rw [a2] at h4
   have e : ucj_ σ ((k, some (u3d_ o)) :: r) = ucj_ (ucj_ σ r) [(k, some (u3d_ o))] := ubg_ σ [(k, some (u3d_ o))] r
   rw [e]; exact h4
theorem ubyp_ {ks : List Nat} : ∀ p ∈ ubtx_ σ ks, ∃ o, σ p.1 = some o ∧ p.2 = some (u3d_ o) := by
 induction ks with
 | nil => intro p hp; cases hp
 | cons k r ih =>
   intro p hp
   simp only [ubtx_] at hp
   split at hp
   · rename_i o ho
     rcases List.mem_cons.1 hp with rfl | hp
     · exact ⟨o, ho, rfl⟩
     · exact ih p hp
   · exact ih p hp
theorem ub3b_ (hm : MemS P fr free σ w G) (l : List Sh) (vs : List SV) : ∃ G', GLe w G w G' ∧ MemS P fr free (ub66_ σ l vs) w G' := ub91_ hm ubyp_
theorem ub4b_ {l : List (Nat × Option Obj)} (hσ : ∀ k o, σ' k = some o → σ k = some o) : ∀ k o, ucj_ σ' l k = some o → ucj_ σ l k = some o := by
 induction l with
 | nil => exact hσ
 | cons p r ih =>
   intro k o h
   obtain ⟨j, x⟩ := p
   simp only [ucj_] at h ⊢
   cases hb : Nat.beq k j with
   | true => rw [hb] at h; exact h
   | false => rw [hb] at h; exact ih k o h
theorem uccc_ {E : Env} (hE : EnvOK P fr.dr E) (hm : MemS P fr free σ w G) (hσ : ∀ k o, σ' k = some o → σ k = some o) (hfree : ∀ k, self ≤ k → k < self + 8 → free k) {o : Oper} {a : Act} {ρ ρt ρf : Operand → SV}
 (hρ : (∀ c x y, o.op ≠ .pick c x y) → ∀ x ∈ o.op.operands, SR P w G (ρ x) (a.eval x))
 (hpick : ∀ c x y, o.op = .pick c x y → SR P w G (ρ c) (a.eval c) ∧ (a.eval c = .bool true → SR P w G (ρt x) (a.eval x)) ∧ (a.eval c = .bool false → SR P w G (ρf y) (a.eval y)))
 {r : OpRes} {u : Upd} (hr : opF E ρ ρt ρf σ' self o = some r) (hu : Gives r u) : Done P fr.dr o a w (Res P fr free self σ w G u) := by
 unfold opF at hr
 split at hr
 · rename_i r0 hr0
   cases hr
   obtain ⟨G1, g1, g2⟩ := ub91_ (fz := ubtx_ σ' (ub20_ E ρ σ' o)) hm fun p hp => let ⟨ob, h1, h2⟩ := ubyp_ p hp; ⟨ob, hσ _ _ h1, h2⟩
   have hu0 : ∃ u0, Gives r0 u0 ∧ u = ⟨u0.sv, u0.wr ++ ubtx_ σ' (ub20_ E ρ σ' o)⟩ := by
    cases r0 with
    | pure u0 => exact ⟨u0, .pure u0, hu.pure_inv⟩
    | may α m d f =>
      obtain ⟨x, hx, rfl⟩ := hu.may_inv
      exact ⟨f x, .may hx, rfl⟩
   obtain ⟨u0, hu0, rfl⟩ := hu0
   refine (uccb_ hE g2 (ub4b_ hσ) hfree (fun h x hx => (hρ h x hx).mono g1) (fun c x y h => ?_) hr0 hu0).mono fun v w' hres => ?_
   · obtain ⟨h1, h2, h3⟩ := hpick c x y h
     exact ⟨h1.mono g1, fun hh => (h2 hh).mono g1, fun hh => (h3 hh).mono g1⟩
   · obtain ⟨G', k1, k2, k3⟩ := hres
     exact ⟨G', g1.trans k1, by rw [ubg_]; exact k2, k3⟩
 · cases hr
end
end Go.Ev
namespace Go.Ev
variable [Pins]
section
variable {P : Program} {fr : Fr} {free free' : Nat → Prop} {self : Nat} {σ σ' : Nat → Option Obj} {w w' : World} {G G' : Gh} {I : Im}
theorem ub52_ {k : IntKind} {n : Int} (h : ub2t_ k n = true) : uoa_ k n := by
 simp only [ub2t_, Bool.and_eq_true, decide_eq_true_eq] at h; exact h
theorem SR.undef (v : Value) : SR P w G .undef v := ⟨[v], rfl, trivial⟩
theorem ub0e_ (v : Value) : SR P w G (ub2u_ v) v := by
 unfold ub2u_
 split
 · exact SR.mk_bool _
 · rename_i k n
   cases h : ub2t_ k n with
   | true => exact SR.mk_int (ub52_ h)
   | false => exact SR.undef _
 · rename_i s
   cases h : Nat.ble s.data.toList.length 281474976710656 with
   | true => exact SR.mk_str (Nat.le_of_ble_eq_true h)
   | false => exact SR.undef _
 · exact ⟨_, rfl, rfl⟩
 · exact ⟨_, rfl, rfl⟩
 · exact ⟨_, rfl, rfl⟩
 · exact ⟨_, rfl, rfl⟩
 · exact ⟨_, rfl, rfl⟩
 · exact SR.undef _
theorem SR.not_grd {tk : List (Nat × Bool)} {g : Bool} {s : SV} {v : Value} (h : SR P w G (.grd tk g s) v) : False := by
 obtain ⟨_, _, h⟩ := h; exact h
theorem SR.strip {s : SV} {v : Value} {tk : List (Nat × Bool)} (h : SR P w G s v) : SR P w G (s.strip tk) v := by
 cases s <;> first | exact h | exact h.not_grd.elim
theorem SR.slotOK {s : SV} {v : Value} {a : Act} (h : SR P w G s v) : SlotOK P w G a s v := by
 cases s <;> first | exact h | exact h.not_grd.elim
theorem ub7u_ {t : Nat × Bool} : ∀ {tk : List (Nat × Bool)}, ub47_ t tk = true → t ∈ tk := by
 intro tk
 induction tk with
 | nil => intro h; cases h
 | cons u r ih =>
   intro h
   simp only [ub47_, Bool.or_eq_true, Bool.and_eq_true] at h
   rcases h with ⟨h1, h2⟩ | h
   · have e1 := Nat.eq_of_beq_eq_true h1
     have e2 : t.2 = u.2 := by
      cases h3 : t.2 <;> cases h4 : u.2 <;> rw [h3, h4] at h2 <;> first | rfl | cases h2
     have : t = u := Prod.ext e1 e2
     rw [this]; exact List.mem_cons_self
   · exact List.mem_cons_of_mem _ (ih h)
theorem SlotOK.strip {s : SV} {v : Value} {a : Act} {tk : List (Nat × Bool)} (h : SlotOK P w G a s v) (hk : holds a tk) : SR P w G (s.strip tk) v := by
 cases s with
 | grd tk' g s =>
   simp only [SV.strip]
   cases ha : tk'.all (ub47_ · tk) with
   | false => exact SR.undef _
   | true =>
     rw [List.all_eq_true] at ha
     exact (h.1 fun t ht => hk t (ub7u_ (ha t ht))).2
 | _ => exact h
theorem SlotOK.mono {s : SV} {v : Value} {a a' : Act} (h : SlotOK P w G a s v) (e : GLe w G w' G') (ht : ∀ tk g s', s = .grd tk g s' → (holds a' tk ↔ holds a tk)) : SlotOK P w' G' a' s v := by
 cases s with
 | grd tk g s =>
   have ht := ht tk g s rfl
   exact ⟨fun hh => ⟨(h.1 (ht.1 hh)).1, (h.1 (ht.1 hh)).2.mono e⟩, fun hh => h.2 fun hk => hh (ht.2 hk)⟩
 | _ => exact SR.mono h e
theorem ub0f_ {a : Act} {sl : Nat → SV} {x : Operand} {tk : List (Nat × Bool)} (hs : ∀ t, x = .tmp t → SlotOK P w G a (sl t) (a.tmps.getD t undef)) (hk : holds a tk) :
 SR P w G ((evalO sl x).strip tk) (a.eval x) := by
 cases x with
 | tmp t => exact (hs t rfl).strip hk
 | const v => exact (ub0e_ v).strip
 | func f => exact ⟨_, rfl, #[], rfl, rfl⟩
 | global g => exact SR.undef _
def umk_ (all : Array Oper) (o : Oper) : List Nat := match o.guard with
 | some (j, _) => match all[j]? with
   | some p => p.dst.toList
   | none => []
 | none => []
def ubyq_ (o : Oper) : List Nat := o.op.operands.toList.filterMap fun | .tmp t => some t | _ => none
theorem ub12_ {o : Oper} {t : Nat} (h : Operand.tmp t ∈ o.op.operands) : t ∈ ubyq_ o := by
 unfold ubyq_
 rw [List.mem_filterMap]
 exact ⟨.tmp t, by simpa using h, rfl⟩
theorem u7h_ {a : Act} {t : Nat} {b : Bool} {tk : List (Nat × Bool)} : holds a ((t, b) :: tk) ↔ a.tmps.getD t undef = .bool b ∧ holds a tk := by
 constructor
 · intro h
   exact ⟨h _ List.mem_cons_self, fun p hp => h p (List.mem_cons_of_mem _ hp)⟩
 · intro h p hp
   rcases List.mem_cons.1 hp with rfl | hp
   · exact h.1
   · exact h.2 p hp
theorem ubhv_ (a : Act) : holds a [] := fun _ h => by cases h
theorem ub0g_ (b : Bool) : undef ≠ .bool b := by intro h; cases h
theorem ub53_ {all : Array Oper} {o p : Oper} {j t : Nat} {b : Bool} {a : Act} (hg : o.guard = some (j, b)) (hp : all[j]? = some p) (ht : p.dst = some t) :
 Region.wanted o (yielded all a.tmps) = true ↔ a.tmps.getD t undef = .bool b := by
 unfold Region.wanted yielded
 simp only [hg, hp, Option.bind_some, ht]
 cases h : a.tmps[t]? with
 | none => simp [h, undef]
 | some v =>
   have : a.tmps.getD t undef = v := by simp [h]
   rw [this]
   cases v <;> simp
theorem ub92_ {all : Array Oper} {o : Oper} {sl : Nat → SV} {a : Act} {tk : List (Nat × Bool)} {g : Bool} (h : ubhr_ all sl o = some (tk, g))
 (hs : ∀ t ∈ umk_ all o, SlotOK P w G a (sl t) (a.tmps.getD t undef)) :
 (Region.wanted o (yielded all a.tmps) = true ↔ holds a tk) ∧ (holds a tk → g = true) ∧ (o.guard = none → tk = []) ∧
  ∀ p ∈ tk, p.1 ∈ umk_ all o ∨ ∃ t ∈ umk_ all o, ∃ tk' g' s', sl t = .grd tk' g' s' ∧ p ∈ tk' := by
 unfold ubhr_ at h
 split at h
 · rename_i hg
   simp only [Option.some.injEq, Prod.mk.injEq] at h
   obtain ⟨rfl, rfl⟩ := h
   exact ⟨by simp [Region.wanted, hg, ubhv_], fun _ => rfl, fun _ => rfl, fun p hp => by cases hp⟩
 · rename_i j b hg
   split at h
   · rename_i p hp
     split at h
     · rename_i t ht
       have hsl : umk_ all o = [t] := by simp [umk_, hg, hp, ht]
       have hst := hs t (by rw [hsl]; simp)
       have hwi := ub53_ (a := a) hg hp ht
       split at h
       · rename_i c hc
         simp only [Option.some.injEq, Prod.mk.injEq] at h
         obtain ⟨rfl, rfl⟩ := h
         rw [hc] at hst
         have hv := SR.bool hst
         refine ⟨by rw [hwi, u7h_]; simp [ubhv_], fun hh => ?_, fun h => (by rw [hg] at h; cases h), fun q hq => .inl ?_⟩
         · have := (u7h_.1 hh).1
           rw [hv] at this
           cases this
           cases b <;> rfl
         · have : q = (t, b) := by simpa using hq
           rw [this, hsl]; simp
       · rename_i tk' g' c hc
         simp only [Option.some.injEq, Prod.mk.injEq] at h
         obtain ⟨rfl, rfl⟩ := h
         rw [hc] at hst
         have key : a.tmps.getD t undef = .bool b → holds a tk' := by
          intro h1
          apply Classical.byContradiction
          intro h2
          rw [hst.2 h2] at h1
          exact ub0g_ _ h1
         refine ⟨?_, fun hh => ?_, fun h => (by rw [hg] at h; cases h), fun q hq => ?_⟩
         · rw [hwi, u7h_]
           exact ⟨fun h1 => ⟨h1, key h1⟩, fun h1 => h1.1⟩
         · obtain ⟨h1, h2⟩ := u7h_.1 hh
           obtain ⟨h3, h4⟩ := hst.1 h2
           have hv := SR.bool h4
           rw [hv] at h1
           cases h1
           rw [h3]
           cases b <;> rfl
         · rcases List.mem_cons.1 hq with rfl | hq
           · exact .inl (by rw [hsl]; simp)
           · exact .inr ⟨t, by rw [hsl]; simp, tk', g', _, hc, hq⟩
       · cases h
     · cases h
   · cases h
structure SimF (P : Program) (N : Nat) (fr : Fr) (free D : Nat → Prop) (sl : Nat → SV) (σ : Nat → Option Obj) (a : Act) (w : World) (G : Gh) : Prop where
 slots : ∀ t, SlotOK P w G a (sl t) (a.tmps.getD t undef)
 defs : a.defers = []
 size : a.tmps.size = N
 fix : ∀ t v, fr.fx t = some v → a.tmps.getD t undef = v
 toks : ∀ t tk g s, sl t = .grd tk g s → tk ≠ [] ∧ ∀ p ∈ tk, D p.1
 mem : MemS P fr free σ w G
 drawn : fr.dr = true → fr.w0.drawn ≤ w.drawn
theorem ubyr_ {a : Act} {N : Nat} (hN : a.tmps.size = N) {dst : Option Nat} (hd : ∀ d, dst = some d → d < N) (v : Value) (t : Nat) :
 (a.put dst v).tmps.getD t undef = if dst = some t then v else a.tmps.getD t undef := by
 cases dst with
 | none => simp [Act.put]
 | some d =>
   have hd := hd d rfl
   by_cases h : d = t
   · subst h
     simp [Act.put, hN, hd]
   · simp [Act.put, h, Array.getElem?_setIfInBounds_ne h]
theorem ub54_ (a : Act) (dst : Option Nat) (v : Value) : (a.put dst v).defers = a.defers := by cases dst <;> rfl
theorem ub93_ (a : Act) (dst : Option Nat) (v : Value) : (a.put dst v).tmps.size = a.tmps.size := by cases dst <;> simp [Act.put]
theorem u7i_ (sl : Nat → SV) (dst : Option Nat) (s : SV) (t : Nat) : ubmw_ sl dst s t = if dst = some t then s else sl t := by
 cases dst with
 | none => simp [ubmw_]
 | some d =>
   simp only [ubmw_]
   by_cases h : t = d
   · subst h; simp [Nat.beq_refl]
   · have : Nat.beq t d = false := by rw [← Bool.not_eq_true]; exact fun hh => h (Nat.eq_of_beq_eq_true hh)
     rw [this]
     have h' : ¬ d = t := fun e => h e.symm
     simp [h']
theorem ub7v_ {tk : List (Nat × Bool)} {u : Upd} (h : calm tk u = true) (ht : tk ≠ []) : u.wr = [] := by
 cases tk with
 | nil => exact absurd rfl ht
 | cons p r =>
   simp only [calm] at h
   split at h
   · assumption
   · cases h
theorem ub3c_ {a : Act} {N : Nat} (hN : a.tmps.size = N) {dst : Option Nat} (hd : ∀ d, dst = some d → d < N) {v : Value} {tk : List (Nat × Bool)} (h : ∀ p ∈ tk, dst ≠ some p.1) :
 holds (a.put dst v) tk ↔ holds a tk := by
 unfold holds
 constructor
 · intro hh p hp
   have := hh p hp
   rw [ubyr_ hN hd, if_neg (h p hp)] at this
   exact this
 · intro hh p hp
   rw [ubyr_ hN hd, if_neg (h p hp)]
   exact hh p hp
theorem ub80_ {E : Env} (hE : EnvOK P fr.dr E) {all : Array Oper} {i N : Nat} {o : Oper} (ho : all[i]? = some o) {D : Nat → Prop} {sl sl0 : Nat → SV} {a : Act}
 (hs : SimF P N fr free D sl σ a w G) (hag : ∀ t, t ∈ ubyq_ o ∨ t ∈ umk_ all o → sl0 t = sl t)
 (hgd : ∀ t ∈ umk_ all o, D t) (hdst : ∀ d, o.dst = some d → (d < N ∧ fr.fx d = none) ∧ ¬ D d)
 {tk : List (Nat × Bool)} {g : Bool} (hg : ubhr_ all sl0 o = some (tk, g))
 (hσ : ∀ k ob, σ' k = some ob → σ k = some ob) (hfree : ∀ k, self ≤ k → k < self + 8 → free k)
 {r : OpRes} (hr : opF E (fun x => (evalO sl0 x).strip tk)
  (match o.op with | .pick c _ _ => fun x => (evalO sl0 x).strip (ubro_ c true tk) | _ => fun x => (evalO sl0 x).strip tk)
  (match o.op with | .pick c _ _ => fun x => (evalO sl0 x).strip (ubro_ c false tk) | _ => fun x => (evalO sl0 x).strip tk) σ' self o = some r)
 {u : Upd} (hu : g = true → Gives r u) (hu' : tk = [] → Gives r u) (hcalm : calm tk u = true) {K : Act → World → Prop} {Q : Exit → Act → World → Prop}
 (hK : ∀ a' w' G', GLe w G w' G' → SimF P N fr (ubjz_ free self) D (ubmw_ sl o.dst (mkGrd tk g u.sv)) (ucj_ σ u.wr) a' w' G' → K a' w') :
 wpOp P all Q i K a w := by
 have hgs : ∀ t ∈ umk_ all o, SlotOK P w G a (sl0 t) (a.tmps.getD t undef) := fun t ht => by rw [hag t (.inr ht)]; exact hs.slots t
 obtain ⟨g1, g2, g3, g4⟩ := ub92_ hg hgs
 have htk : ∀ p ∈ tk, D p.1 := by
  intro p hp
  rcases g4 p hp with h | ⟨t, ht, tk', g', s', h1, h2⟩
  · exact hgd _ h
  · rw [hag t (.inr ht)] at h1
    exact (hs.toks t tk' g' s' h1).2 p h2
 have hdN : ∀ d, o.dst = some d → d < N := fun d hd => (hdst d hd).1.1
 have hnd : ∀ {tk' : List (Nat × Bool)}, (∀ p ∈ tk', D p.1) → ∀ p ∈ tk', o.dst ≠ some p.1 := fun h p hp e => (hdst _ e).2 (h p hp)
 have fin : ∀ (v : Value) (w' : World) (G' : Gh), GLe w G w' G' → MemS P fr (ubjz_ free self) (ucj_ σ u.wr) w' G' → (fr.dr = true → w.drawn ≤ w'.drawn) →
  ((holds a tk → g = true ∧ SR P w' G' u.sv v) ∧ (¬ holds a tk → v = Go.undef)) → K (a.put o.dst v) w' := by
  intro v w' G' hle hm hdr hv
  refine hK _ w' G' hle ⟨fun t => ?_, ?_, ?_, ?_, ?_, hm, fun h => Nat.le_trans (hs.drawn h) (hdr h)⟩
  · rw [u7i_, ubyr_ hs.size hdN]
    by_cases h : o.dst = some t
    · rw [if_pos h, if_pos h]
      cases tk with
      | nil => exact (hv.1 (ubhv_ a)).2.slotOK
      | cons p r =>
        have := ub3c_ (v := v) hs.size hdN (hnd htk)
        exact ⟨fun hh => hv.1 (this.1 hh), fun hh => hv.2 fun hk => hh (this.2 hk)⟩
    · rw [if_neg h, if_neg h]
      refine (hs.slots t).mono hle fun tk' g' s' h' => ?_
      exact ub3c_ hs.size hdN (hnd (hs.toks t tk' g' s' h').2)
  · rw [ub54_]; exact hs.defs
  · rw [ub93_]; exact hs.size
  · intro t v' h
    rw [ubyr_ hs.size hdN, if_neg (fun e => by have := (hdst t e).1.2; rw [h] at this; cases this)]
    exact hs.fix t v' h
  · intro t tk' g' s' h
    rw [u7i_] at h
    by_cases hd : o.dst = some t
    · rw [if_pos hd] at h
      cases htk' : tk with
      | nil =>
        rw [htk'] at h hv
        have h : u.sv = .grd tk' g' s' := h
        have := (hv.1 (ubhv_ a)).2
        rw [h] at this
        exact this.not_grd.elim
      | cons q r =>
        rw [htk'] at h
        have h : SV.grd (q :: r) g u.sv = .grd tk' g' s' := h
        injection h with h1 _ _
        exact ⟨by rw [← h1]; simp, fun p hp => htk p (by rw [htk', h1]; exact hp)⟩
    · rw [if_neg hd] at h
      exact hs.toks t tk' g' s' h
 unfold wpOp
 simp only [ho]
 by_cases hw : Region.wanted o (yielded all a.tmps) = true
 · rw [if_pos hw]
   have hh := g1.1 hw
   have hgt := g2 hh
   left
   have hop : ∀ {tk' : List (Nat × Bool)}, holds a tk' → ∀ x ∈ o.op.operands, SR P w G ((evalO sl0 x).strip tk') (a.eval x) := by
    intro tk' hh' x hx
    refine ub0f_ (fun t ht => ?_) hh'
    subst ht
    rw [hag t (.inl (ub12_ hx))]
    exact hs.slots t
   have hdone : Done P fr.dr o a w (Res P fr free self σ w G u) := by
    refine uccc_ hE hs.mem hσ hfree (fun _ x hx => hop hh x hx) ?_ hr (hu hgt)
    intro c x y hpk
    refine ⟨hop hh c (by simp [hpk, Op.operands]), fun hc => ?_, fun hc => ?_⟩
    · simp only [hpk]
      refine hop ?_ x (by simp [hpk, Op.operands])
      cases c with
      | tmp t => exact u7h_.2 ⟨hc, hh⟩
      | _ => exact hh
    · simp only [hpk]
      refine hop ?_ y (by simp [hpk, Op.operands])
      cases c with
      | tmp t => exact u7h_.2 ⟨hc, hh⟩
      | _ => exact hh
   refine hdone Q K fun v w' hres hdr => ?_
   obtain ⟨G', h1, h2, h3⟩ := hres
   exact fin v w' G' h1 h2 hdr ⟨fun _ => ⟨hgt, h3⟩, fun hn => absurd hh hn⟩
 · rw [if_neg hw]
   have hnh : ¬ holds a tk := fun h => hw (g1.2 h)
   have hne : tk ≠ [] := fun e => by subst e; exact hnh (ubhv_ a)
   have hwr := ub7v_ hcalm hne
   refine fin Go.undef w G (GLe.refl _ _) ?_ (fun _ => Nat.le_refl _) ⟨fun h => absurd h hnh, fun _ => rfl⟩
   rw [hwr]
   exact hs.mem.shrink fun _ h => h.1
theorem SimF.draws {N : Nat} {D : Nat → Prop} {sl : Nat → SV} {a : Act} (h : SimF P N fr free D sl σ a w G) (n : Nat) (hn : w.drawn ≤ n) : SimF P N fr free D sl σ a { w with drawn := n } G := by
 have hle : GLe w G { w with drawn := n } G := ⟨⟨fun _ _ h => ⟨h, rfl⟩, fun _ h => ⟨h, rfl⟩⟩, fun _ _ _ h => h, fun _ _ h => h, fun _ _ h => h⟩
 refine ⟨fun t => (h.slots t).mono hle fun _ _ _ _ => Iff.rfl, h.defs, h.size, h.fix, h.toks, ⟨fun k o ho => ?_, h.mem.sep, ?_, h.mem.fresh⟩, fun hd => Nat.le_trans (h.drawn hd) hn⟩
 · exact (h.mem.objs k o ho).keep hle fun b _ => ⟨rfl, fun _ h => h, fun h => h⟩
 · exact ⟨⟨fun b o hb => h.mem.after.ext.cell b o hb, fun b hb => h.mem.after.ext.obj b hb⟩, h.mem.after.heap, h.mem.after.size, h.mem.after.newC, h.mem.after.newO, h.mem.after.inC, h.mem.after.inO,
    h.mem.after.os, h.mem.after.tape, h.mem.after.output, h.mem.after.pins.ext hle.ext⟩
end
end Go.Ev
namespace Go.Ev
variable [Pins]
section
variable {P : Program} {fr : Fr} {free free' : Nat → Prop} {self : Nat} {σ σ' : Nat → Option Obj} {w w' : World} {G G' : Gh} {I : Im}
theorem ub7w_ {Ω : Type} {tk : List (Nat × Bool)} {g : Bool} {r : OpRes} {K : Upd → Option Ω} {ω : Ω} (h : evRes tk g r K = some ω) :
 ∃ u, (g = true → Gives r u) ∧ (tk = [] → Gives r u) ∧ calm tk u = true ∧ K u = some ω := by
 unfold evRes at h
 split at h
 · rename_i u
   cases hc : calm tk u with
   | false => rw [hc] at h; cases h
   | true => rw [hc] at h; exact ⟨u, fun _ => .pure u, fun _ => .pure u, hc, h⟩
 · rename_i α m d f
   obtain ⟨x, h1, h2⟩ := Option.bind_eq_some_iff.1 h
   cases hc : calm tk (f x) with
   | false => rw [hc] at h2; cases h2
   | true =>
     rw [hc] at h2
     refine ⟨f x, fun hg => .may ?_, fun ht => .may ?_, hc, h2⟩
     · subst hg
       cases tk with
       | nil => exact h1
       | cons p r => exact h1
     · subst ht; exact h1
structure GuardsOK (all : Array Oper) : Prop where
 uniq : uwn_ all = true → ∀ (i j : Nat) (o p : Oper) (d : Nat), i < j → all[i]? = some o → all[j]? = some p → o.dst = some d → p.dst ≠ some d
 back : uwn_ all = true → ∀ (i : Nat) (o : Oper) (j : Nat) (b : Bool), all[i]? = some o → o.guard = some (j, b) → j < i
theorem ubxu_ {all : Array Oper} {i : Nat} {o : Oper} {j : Nat} {b : Bool} (ho : all[i]? = some o) (hg : o.guard = some (j, b)) : uwn_ all = true := by
 unfold uwn_
 rw [List.any_eq_true]
 exact ⟨o, by simpa using Array.mem_of_getElem? ho, by simp [hg]⟩
def DS (all : Array Oper) (S : Nat → Bool) : Nat → Prop := fun t => uwn_ all = true ∧ ∃ j o, S j = true ∧ all[j]? = some o ∧ o.dst = some t
theorem DS.mono {all : Array Oper} {S S' : Nat → Bool} {t : Nat} (h : DS all S t) (hs : ∀ j, S j = true → S' j = true) : DS all S' t :=
 ⟨h.1, let ⟨j, o, h1, h2, h3⟩ := h.2; ⟨j, o, hs j h1, h2, h3⟩⟩
theorem ubm7_ {all : Array Oper} {o : Oper} {t : Nat} (h : t ∈ umk_ all o) : ∃ j b p, o.guard = some (j, b) ∧ all[j]? = some p ∧ p.dst = some t := by
 unfold umk_ at h
 split at h
 · rename_i j b hg
   split at h
   · rename_i p hp
     exact ⟨j, b, p, hg, hp, by simpa using h⟩
   · cases h
 · cases h
theorem SimF.weaken {N : Nat} {D D' : Nat → Prop} {sl : Nat → SV} {a : Act} (h : SimF P N fr free D sl σ a w G) (hf : ∀ k, free' k → free k) (hD : ∀ t, D t → D' t) : SimF P N fr free' D' sl σ a w G :=
 ⟨h.slots, h.defs, h.size, h.fix, fun t tk g s hh => ⟨(h.toks t tk g s hh).1, fun p hp => hD _ ((h.toks t tk g s hh).2 p hp)⟩, h.mem.shrink hf, h.drawn⟩
theorem ub0h_ {Ω : Type} {E : Env} {all : Array Oper} {draw : Bool} {n0 i : Nat} {o : Oper} {rest : List Oper} {st : St} {cl : List (List Nat × List Nat)} {K : St → List (List Nat × List Nat) → Option Ω} {ω : Ω}
 (h : evOps E all draw n0 (o :: rest) i st cl K = some ω) :
 ∃ tk g r u, ubhr_ all st.slots o = some (tk, g) ∧
  opF E (fun x => (evalO st.slots x).strip tk)
   (match o.op with | .pick c _ _ => fun x => (evalO st.slots x).strip (ubro_ c true tk) | _ => fun x => (evalO st.slots x).strip tk)
   (match o.op with | .pick c _ _ => fun x => (evalO st.slots x).strip (ubro_ c false tk) | _ => fun x => (evalO st.slots x).strip tk)
   (seen all draw n0 i (foot (fun x => (evalO st.slots x).strip tk) st.sto o.op) st.sto) (n0 + 8 * i) o = some r ∧
  (g = true → Gives r u) ∧ (tk = [] → Gives r u) ∧ calm tk u = true ∧
  wrOK (seen all draw n0 i (foot (fun x => (evalO st.slots x).strip tk) st.sto o.op) st.sto) (n0 + 8 * i) u = true ∧
  evOps E all draw n0 rest (i + 1) { slots := ubmw_ st.slots o.dst (mkGrd tk g u.sv), sto := ucj_ st.sto u.wr, n := st.n }
   ((u.far (n0 + 8 * i), foot (fun x => (evalO st.slots x).strip tk) st.sto o.op) :: cl) K = some ω := by
 simp only [evOps] at h
 split at h
 · cases h
 · rename_i tk g hg
   split at h
   · cases h
   · rename_i r hr
     obtain ⟨u, h1, h2, h3, h4⟩ := ub7w_ h
     cases hw : wrOK (seen all draw n0 i (foot (fun x => (evalO st.slots x).strip tk) st.sto o.op) st.sto) (n0 + 8 * i) u with
     | false => rw [hw] at h4; cases h4
     | true =>
       rw [hw] at h4
       exact ⟨tk, g, r, u, hg, hr, h1, h2, h3, hw, h4⟩
theorem ub55_ {Ω : Type} {E : Env} (hE : EnvOK P fr.dr E) {N n0 : Nat} {all : Array Oper} (hgo : GuardsOK all) (hdst : ∀ (j : Nat) o d, all[j]? = some o → o.dst = some d → d < N ∧ fr.fx d = none)
 {K : St → List (List Nat × List Nat) → Option Ω} {ω : Ω} {Q : Exit → Act → World → Prop} :
 ∀ (ops : List Oper) (i : Nat) (st : St) (cl : List (List Nat × List Nat)) (a : Act) (w : World) (G : Gh), evOps E all false n0 ops i st cl K = some ω → all.toList.drop i = ops → i + ops.length = all.size →
  SimF P N fr (fun k => n0 + 8 * i ≤ k) (DS all (fun j => decide (j < i))) st.slots st.sto a w G →
  (∀ st' cl' a' w' G', SimF P N fr (fun k => n0 + 8 * all.size ≤ k) (DS all (fun j => decide (j < all.size))) st'.slots st'.sto a' w' G' → st'.n = st.n → K st' cl' = some ω → Q .normal a' w') →
  wpOps P all Q (List.range' i ops.length) a w := by
 intro ops
 induction ops with
 | nil =>
   intro i st cl a w G h hdr hl hs hQ
   simp only [List.length_nil, Nat.add_zero] at hl
   subst hl
   exact hQ st cl a w G hs rfl h
 | cons o rest ih =>
   intro i st cl a w G h hdr hl hs hQ
   obtain ⟨tk, g, r, u, h1, h2, h3, h4, h5, h6, h7⟩ := ub0h_ h
   have ho : all[i]? = some o := by
    have := congrArg List.head? hdr
    rw [List.head?_drop] at this
    simpa using this
   simp only [List.length_cons, List.range'_succ]
   rw [wpOps_cons]
   refine ub80_ hE ho (self := n0 + 8 * i) hs (fun t _ => rfl) ?_ ?_ h1 ?_ (fun k hk _ => hk) h2 h3 h4 h5 ?_
   · intro t ht
     obtain ⟨j, b, p, hg, hp, hd⟩ := ubm7_ ht
     have hh := ubxu_ ho hg
     exact ⟨hh, j, p, by simpa using hgo.back hh i o j b ho hg, hp, hd⟩
   · intro d hd
     refine ⟨hdst i o d ho hd, fun hD => ?_⟩
     obtain ⟨hh, j, p, hj, hp, hpd⟩ := hD
     exact hgo.uniq hh j i p o d (by simpa using hj) hp ho hpd hd
   · intro k ob hk
     exact hk
   · intro a' w' G' _ hs'
     refine ih (i + 1) _ _ a' w' G' h7 ?_ (by simp only [List.length_cons] at hl; omega) ?_ (fun st' cl' a' w' G' hs' hn hK => hQ st' cl' a' w' G' hs' hn hK)
     · have := congrArg List.tail hdr
       simpa [List.tail_drop] using this
     · refine hs'.weaken (fun k hk => ⟨by omega, ?_⟩) fun t ht => ht.mono fun j hj => by simp only [decide_eq_true_eq] at hj ⊢; omega
       simp only [ubr7_, Bool.and_eq_false_iff]
       right
       rw [← Bool.not_eq_true, Nat.blt_eq]; omega
structure Info where
 tk : List (Nat × Bool)
 g : Bool
 u : Upd
 c : List Nat × List Nat
def slF (all : Array Oper) (L : Nat → Info) (S : Nat → Bool) (sl0 : Nat → SV) : Nat → Nat → SV
 | 0 => sl0
 | i + 1 => bif S i then ubmw_ (slF all L S sl0 i) (all.getD i default).dst (mkGrd (L i).tk (L i).g (L i).u.sv) else slF all L S sl0 i
def stF (L : Nat → Info) (S : Nat → Bool) (σ0 : Nat → Option Obj) : Nat → Nat → Option Obj
 | 0 => σ0
 | i + 1 => bif S i then ucj_ (stF L S σ0 i) (L i).u.wr else stF L S σ0 i
def keysW (l : List (Nat × Option Obj)) : List Nat := l.map (·.1)
theorem ubud_ {σ : Nat → Option Obj} : ∀ {l : List (Nat × Option Obj)} {k : Nat}, k ∉ keysW l → ucj_ σ l k = σ k := by
 intro l
 induction l with
 | nil => intro k _; rfl
 | cons p r ih =>
   intro k h
   obtain ⟨j, o⟩ := p
   simp only [keysW, List.map_cons, List.mem_cons, not_or] at h
   simp only [ucj_]
   rw [show Nat.beq k j = false by rw [← Bool.not_eq_true]; exact fun hh => h.1 (Nat.eq_of_beq_eq_true hh)]
   exact ih h.2
theorem ub3d_ {σ σ' : Nat → Option Obj} : ∀ {l : List (Nat × Option Obj)} {k : Nat}, k ∈ keysW l → ucj_ σ l k = ucj_ σ' l k := by
 intro l
 induction l with
 | nil => intro k h; cases h
 | cons p r ih =>
   intro k h
   obtain ⟨j, o⟩ := p
   simp only [ucj_]
   cases hb : Nat.beq k j with
   | true => rfl
   | false =>
     simp only [cond_false]
     refine ih ?_
     simp only [keysW, List.map_cons, List.mem_cons] at h
     rcases h with rfl | h
     · rw [Nat.beq_refl] at hb; cases hb
     · exact h
theorem ub7x_ {all : Array Oper} {L : Nat → Info} {S S' : Nat → Bool} {sl0 : Nat → SV} {t : Nat} : ∀ {n : Nat}, (∀ j, j < n → (all.getD j default).dst = some t → S j = S' j) → slF all L S sl0 n t = slF all L S' sl0 n t := by
 intro n
 induction n with
 | zero => intro _; rfl
 | succ n ih =>
   intro h
   have ih := ih fun j hj => h j (by omega)
   have key : ∀ S, slF all L S sl0 (n + 1) t = if S n = true ∧ (all.getD n default).dst = some t then mkGrd (L n).tk (L n).g (L n).u.sv else slF all L S sl0 n t := by
    intro S
    simp only [slF]
    cases hS : S n with
    | false => simp
    | true => simp only [cond_true, u7i_, true_and]
   rw [key, key, ih]
   by_cases hd : (all.getD n default).dst = some t
   · rw [h n (by omega) hd]
   · rw [if_neg (fun h => hd h.2), if_neg (fun h => hd h.2)]
theorem ub7y_ {L : Nat → Info} {S S' : Nat → Bool} {σ0 : Nat → Option Obj} {k : Nat} : ∀ {n : Nat}, (∀ j, j < n → k ∈ keysW (L j).u.wr → S j = S' j) → stF L S σ0 n k = stF L S' σ0 n k := by
 intro n
 induction n with
 | zero => intro _; rfl
 | succ n ih =>
   intro h
   have ih := ih fun j hj => h j (by omega)
   simp only [stF]
   by_cases hk : k ∈ keysW (L n).u.wr
   · rw [h n (by omega) hk]
     cases S' n with
     | true => exact ub3d_ hk
     | false => exact ih
   · have key : ∀ S, (bif S n then ucj_ (stF L S σ0 n) (L n).u.wr else stF L S σ0 n) k = stF L S σ0 n k := by
      intro S
      cases S n with
      | true => exact ubud_ hk
      | false => rfl
     rw [key, key, ih]
theorem ub56_ {all : Array Oper} {L : Nat → Info} {S : Nat → Bool} {sl0 : Nat → SV} {i : Nat} : ∀ {n : Nat}, i ≤ n → (∀ j, j < i → S j = true) → (∀ j, i ≤ j → j < n → S j = false) → slF all L S sl0 n = slF all L (fun _ => true) sl0 i := by
 intro n
 induction n with
 | zero => intro h _ _; have : i = 0 := by omega
           subst this; rfl
 | succ n ih =>
   intro hi h1 h2
   by_cases h : i = n + 1
   · subst h
     have : slF all L S sl0 n = slF all L (fun _ => true) sl0 n := by
      funext t
      exact ub7x_ fun j hj _ => by rw [h1 j (by omega)]
     simp only [slF, h1 n (by omega), this]
   · simp only [slF, h2 n (by omega) (by omega), cond_false]
     exact ih (by omega) h1 (fun j hj hn => h2 j hj (by omega))
theorem ub57_ {L : Nat → Info} {S : Nat → Bool} {σ0 : Nat → Option Obj} {i : Nat} : ∀ {n : Nat}, i ≤ n → (∀ j, j < i → S j = true) → (∀ j, i ≤ j → j < n → S j = false) → stF L S σ0 n = stF L (fun _ => true) σ0 i := by
 intro n
 induction n with
 | zero => intro h _ _; have : i = 0 := by omega
           subst this; rfl
 | succ n ih =>
   intro hi h1 h2
   by_cases h : i = n + 1
   · subst h
     have : stF L S σ0 n = stF L (fun _ => true) σ0 n := by
      funext t
      exact ub7y_ fun j hj _ => by rw [h1 j (by omega)]
     simp only [stF, h1 n (by omega), this]
   · simp only [stF, h2 n (by omega) (by omega), cond_false]
     exact ih (by omega) h1 (fun j hj hn => h2 j hj (by omega))
theorem ub94_ {all : Array Oper} {L : Nat → Info} {S : Nat → Bool} {sl0 : Nat → SV} {t i : Nat} (hi : S i = true) (hd : (all.getD i default).dst = some t) :
 ∀ {n : Nat}, i < n → (∀ j, i < j → j < n → (all.getD j default).dst = some t → S j = false) → slF all L S sl0 n t = mkGrd (L i).tk (L i).g (L i).u.sv := by
 intro n
 induction n with
 | zero => intro h; omega
 | succ n ih =>
   intro hn h
   simp only [slF]
   by_cases e : i = n
   · subst e
     rw [hi]; simp only [cond_true, u7i_, hd, if_true]
   · have ih := ih (by omega) fun j h1 h2 => h j h1 (by omega)
     by_cases hd' : (all.getD n default).dst = some t
     · rw [h n (by omega) (by omega) hd']; exact ih
     · cases S n with
       | true => simp only [cond_true, u7i_, hd', if_false]; exact ih
       | false => exact ih
theorem ub95_ {L : Nat → Info} {S : Nat → Bool} {σ0 σ : Nat → Option Obj} {k i : Nat} (hi : S i = true) (hd : k ∈ keysW (L i).u.wr) :
 ∀ {n : Nat}, i < n → (∀ j, i < j → j < n → k ∈ keysW (L j).u.wr → S j = false) → stF L S σ0 n k = ucj_ σ (L i).u.wr k := by
 intro n
 induction n with
 | zero => intro h; omega
 | succ n ih =>
   intro hn h
   simp only [stF]
   by_cases e : i = n
   · subst e
     rw [hi]; exact ub3d_ hd
   · have ih := ih (by omega) fun j h1 h2 => h j h1 (by omega)
     by_cases hd' : k ∈ keysW (L n).u.wr
     · rw [h n (by omega) (by omega) hd']; exact ih
     · cases S n with
       | true => exact (ubud_ hd').trans ih
       | false => exact ih
theorem ub3e_ {all : Array Oper} {L L' : Nat → Info} {S : Nat → Bool} {sl0 : Nat → SV} : ∀ {n : Nat}, (∀ j, j < n → L j = L' j) → slF all L S sl0 n = slF all L' S sl0 n := by
 intro n
 induction n with
 | zero => intro _; rfl
 | succ n ih => intro h; simp only [slF, ih fun j hj => h j (by omega), h n (by omega)]
theorem ub3f_ {L L' : Nat → Info} {S : Nat → Bool} {σ0 : Nat → Option Obj} : ∀ {n : Nat}, (∀ j, j < n → L j = L' j) → stF L S σ0 n = stF L' S σ0 n := by
 intro n
 induction n with
 | zero => intro _; rfl
 | succ n ih => intro h; simp only [stF, ih fun j hj => h j (by omega), h n (by omega)]
structure Fact (E : Env) (all : Array Oper) (n0 : Nat) (L : Nat → Info) (sl0 : Nat → SV) (σ0 : Nat → Option Obj) (i : Nat) (o : Oper) (r : OpRes) : Prop where
 op : all[i]? = some o
 grd : ubhr_ all (slF all L (fun _ => true) sl0 i) o = some ((L i).tk, (L i).g)
 val : opF E (fun x => (evalO (slF all L (fun _ => true) sl0 i) x).strip (L i).tk)
  (match o.op with | .pick c _ _ => fun x => (evalO (slF all L (fun _ => true) sl0 i) x).strip (ubro_ c true (L i).tk) | _ => fun x => (evalO (slF all L (fun _ => true) sl0 i) x).strip (L i).tk)
  (match o.op with | .pick c _ _ => fun x => (evalO (slF all L (fun _ => true) sl0 i) x).strip (ubro_ c false (L i).tk) | _ => fun x => (evalO (slF all L (fun _ => true) sl0 i) x).strip (L i).tk)
  (seen all true n0 i (L i).c.2 (stF L (fun _ => true) σ0 i)) (n0 + 8 * i) o = some r
 gives : (L i).g = true → Gives r (L i).u
 gives' : (L i).tk = [] → Gives r (L i).u
 calm : calm (L i).tk (L i).u = true
 wr : wrOK (seen all true n0 i (L i).c.2 (stF L (fun _ => true) σ0 i)) (n0 + 8 * i) (L i).u = true
 cls : (L i).c.1 = (L i).u.far (n0 + 8 * i)
theorem Fact.congr {E : Env} {all : Array Oper} {n0 : Nat} {L L' : Nat → Info} {sl0 : Nat → SV} {σ0 : Nat → Option Obj} {i : Nat} {o : Oper} {r : OpRes}
 (h : Fact E all n0 L sl0 σ0 i o r) (hl : ∀ j, j ≤ i → L j = L' j) : Fact E all n0 L' sl0 σ0 i o r := by
 have e1 := ub3e_ (all := all) (S := fun _ => true) (sl0 := sl0) (n := i) fun j hj => hl j (by omega)
 have e2 := ub3f_ (S := fun _ => true) (σ0 := σ0) (n := i) fun j hj => hl j (by omega)
 have e3 := hl i (Nat.le_refl _)
 exact ⟨h.op, by rw [← e1, ← e3]; exact h.grd, by rw [← e1, ← e2, ← e3]; exact h.val, by rw [← e3]; exact h.gives, by rw [← e3]; exact h.gives', by rw [← e3]; exact h.calm,
  by rw [← e2, ← e3]; exact h.wr, by rw [← e3]; exact h.cls⟩
theorem ub4c_ {Ω : Type} {E : Env} {n0 : Nat} {all : Array Oper} {K : St → List (List Nat × List Nat) → Option Ω} {ω : Ω} {sl0 : Nat → SV} {σ0 : Nat → Option Obj} :
 ∀ (ops : List Oper) (i : Nat) (st : St) (L : Nat → Info), evOps E all true n0 ops i st (((List.range i).map fun j => (L j).c).reverse) K = some ω → all.toList.drop i = ops → i + ops.length = all.size →
  st.slots = slF all L (fun _ => true) sl0 i → st.sto = stF L (fun _ => true) σ0 i → (∀ j, j < i → ∃ o r, Fact E all n0 L sl0 σ0 j o r) →
  ∃ L' : Nat → Info, (∀ j, j < all.size → ∃ o r, Fact E all n0 L' sl0 σ0 j o r) ∧
   K { slots := slF all L' (fun _ => true) sl0 all.size, sto := stF L' (fun _ => true) σ0 all.size, n := st.n } (((List.range all.size).map fun j => (L' j).c).reverse) = some ω := by
 intro ops
 induction ops with
 | nil =>
   intro i st L h hdr hl h1 h2 h3
   simp only [List.length_nil, Nat.add_zero] at hl
   subst hl
   refine ⟨L, h3, ?_⟩
   rw [← h1, ← h2]; exact h
 | cons o rest ih =>
   intro i st L h hdr hl h1 h2 h3
   obtain ⟨tk, g, r, u, k1, k2, k3, k4, k5, k6, k7⟩ := ub0h_ h
   have ho : all[i]? = some o := by
    have := congrArg List.head? hdr
    rw [List.head?_drop] at this
    simpa using this
   let c : List Nat × List Nat := (u.far (n0 + 8 * i), foot (fun x => (evalO st.slots x).strip tk) st.sto o.op)
   let L' : Nat → Info := fun j => if j = i then ⟨tk, g, u, c⟩ else L j
   have hL : ∀ j, j < i → L j = L' j := fun j hj => by simp [L', Nat.ne_of_lt hj]
   have hLi : L' i = ⟨tk, g, u, c⟩ := by simp [L']
   have e1 := ub3e_ (all := all) (S := fun _ => true) (sl0 := sl0) (n := i) hL
   have e2 := ub3f_ (S := fun _ => true) (σ0 := σ0) (n := i) hL
   have s1 : st.slots = slF all L' (fun _ => true) sl0 i := h1.trans e1
   have s2 : st.sto = stF L' (fun _ => true) σ0 i := h2.trans e2
   have hget : all.getD i default = o := by
    rw [Array.getD_eq_getD_getElem?, ho]; rfl
   have := ih (i + 1) { slots := ubmw_ st.slots o.dst (mkGrd tk g u.sv), sto := ucj_ st.sto u.wr, n := st.n } L' ?_ ?_ ?_ ?_ ?_ ?_
   · exact this
   · have : ((List.range (i + 1)).map fun j => (L' j).c).reverse = c :: ((List.range i).map fun j => (L j).c).reverse := by
      rw [List.range_succ, List.map_append, List.reverse_append]
      simp only [List.map_cons, List.map_nil, List.reverse_cons, List.reverse_nil, List.nil_append, List.singleton_append, hLi, List.cons.injEq, true_and]
      congr 1
      exact List.map_congr_left fun j hj => by rw [hL j (List.mem_range.1 hj)]
     rw [this]; exact k7
   · have := congrArg List.tail hdr
     simpa [List.tail_drop] using this
   · simp only [List.length_cons] at hl; omega
   · simp only [slF, hLi, cond_true, hget, ← s1]
   · simp only [stF, hLi, cond_true, ← s2]
   · intro j hj
     by_cases e : j = i
     · subst e
       refine ⟨o, r, ho, ?_, ?_, ?_, ?_, ?_, ?_, ?_⟩
       · rw [hLi, ← s1]; exact k1
       · rw [hLi, ← s1, ← s2]; exact k2
       · rw [hLi]; exact k3
       · rw [hLi]; exact k4
       · rw [hLi]; exact k5
       · rw [hLi, ← s2]; exact k6
       · rw [hLi]
     · obtain ⟨o', r', hf⟩ := h3 j (by omega)
       exact ⟨o', r', hf.congr fun j' hj' => hL j' (by omega)⟩
end
end Go.Ev
namespace Go.Ev
variable [Pins]
section
variable {all : Array Oper}
def ubue_ (acc : Array Nat) (l : List Edge) (s : Nat) : Nat := l.foldl (fun s e => if Region.binds .any e then s ||| 2 ^ e.on ||| acc.getD e.on 0 else s) s
theorem ub13_ {acc : Array Nat} {i : Nat} : ∀ {l : List Edge} {s : Nat}, (ubue_ acc l s).testBit i = true →
 s.testBit i = true ∨ ∃ e ∈ l, Region.binds .any e = true ∧ (e.on = i ∨ (acc.getD e.on 0).testBit i = true) := by
 intro l
 induction l with
 | nil => intro s h; exact .inl h
 | cons e r ih =>
   intro s h
   simp only [ubue_, List.foldl_cons] at h
   rcases ih h with h | ⟨e', h1, h2⟩
   · by_cases hb : Region.binds .any e = true
     · rw [if_pos hb] at h
       simp only [Nat.testBit_or, Bool.or_eq_true, Nat.testBit_two_pow, decide_eq_true_eq] at h
       rcases h with (h | h) | h
       · exact .inl h
       · exact .inr ⟨e, List.mem_cons_self, hb, .inl h⟩
       · exact .inr ⟨e, List.mem_cons_self, hb, .inr h⟩
     · rw [if_neg hb] at h; exact .inl h
   · exact .inr ⟨e', List.mem_cons_of_mem _ h1, h2⟩
def befF (acc : Array Nat) (o : Oper) : Array Nat := acc.push (ubue_ acc o.after.toList 0)
theorem ub3g_ (all : Array Oper) : Region.before all = all.toList.foldl befF #[] := by
 unfold Region.before
 rw [← Array.foldl_toList]
 congr 1
 funext acc o
 simp only [befF, ubue_, Array.foldl_toList]
theorem ub7z_ : ∀ (l : List Oper) (acc : Array Nat), (l.foldl befF acc).size = acc.size + l.length ∧ (∀ k, k < acc.size → (l.foldl befF acc).getD k 0 = acc.getD k 0) ∧
 ∀ (j : Nat) (o : Oper), l[j]? = some o → ∃ acc' : Array Nat, (∀ k, k < acc.size + j → acc'.getD k 0 = (l.foldl befF acc).getD k 0) ∧ (l.foldl befF acc).getD (acc.size + j) 0 = ubue_ acc' o.after.toList 0 := by
 intro l
 induction l with
 | nil => intro acc; exact ⟨rfl, fun _ _ => rfl, fun j o h => by cases h⟩
 | cons o l ih =>
   intro acc
   obtain ⟨h1, h2, h3⟩ := ih (befF acc o)
   have hsz : (befF acc o).size = acc.size + 1 := by simp [befF]
   have hlow : ∀ k, k < acc.size → (befF acc o).getD k 0 = acc.getD k 0 := by
    intro k hk
    simp [befF, Array.getD_eq_getD_getElem?, Array.getElem?_push, Nat.ne_of_lt hk]
   simp only [List.foldl_cons]
   refine ⟨by rw [h1, hsz, List.length_cons]; omega, fun k hk => by rw [h2 k (by omega), hlow k hk], fun j p hj => ?_⟩
   cases j with
   | zero =>
     have : o = p := by simpa using hj
     subst this
     refine ⟨acc, fun k hk => by rw [h2 k (by omega), hlow k (by omega)], ?_⟩
     rw [h2 _ (by omega)]
     simp [befF, Array.getD_eq_getD_getElem?]
   | succ j =>
     obtain ⟨acc', k1, k2⟩ := h3 j p (by simpa using hj)
     refine ⟨acc', fun k hk => k1 k (by omega), ?_⟩
     rw [show acc.size + (j + 1) = (befF acc o).size + j by omega]
     exact k2
def Back (all : Array Oper) : Prop := ∀ (i : Nat) o, all[i]? = some o → ∀ e ∈ o.after, Region.binds .any e = true → e.on < i
def bits (all : Array Oper) (i : Nat) : Nat := (Region.before all).getD i 0
theorem ub70_ (hb : Back all) {j i : Nat} {o : Oper} (ho : all[j]? = some o) (h : (bits all j).testBit i = true) :
 ∃ e ∈ o.after, Region.binds .any e = true ∧ (e.on = i ∨ (bits all e.on).testBit i = true) := by
 obtain ⟨_, _, h3⟩ := ub7z_ all.toList #[]
 obtain ⟨acc', k1, k2⟩ := h3 j o (by simpa using ho)
 unfold bits at h
 rw [ub3g_] at h
 simp only [List.size_toArray, List.length_nil, Nat.zero_add] at k1 k2
 rw [k2] at h
 rcases ub13_ h with h | ⟨e, h1, h2, h4⟩
 · simp at h
 · have hmem : e ∈ o.after := by simpa using h1
   refine ⟨e, hmem, h2, h4.imp id fun h => ?_⟩
   have hlt := hb j o ho e hmem h2
   rw [k1 e.on hlt] at h
   unfold bits
   rw [ub3g_]; exact h
def Down (all : Array Oper) (S : Nat → Bool) : Prop := ∀ (j : Nat) o, S j = true → all[j]? = some o → ∀ e ∈ o.after, Region.binds .any e = true → S e.on = true
theorem ub81_ (hb : Back all) {S : Nat → Bool} (hd : Down all S) : ∀ (n j : Nat) (o : Oper), j < n → all[j]? = some o → (∀ e ∈ o.after, Region.binds .any e = true → S e.on = true) →
 ∀ i, (bits all j).testBit i = true → S i = true ∧ i < j := by
 intro n
 induction n with
 | zero => intro j o h; omega
 | succ n ih =>
   intro j o hj ho hall i h
   obtain ⟨e, he, hbd, h1⟩ := ub70_ hb ho h
   have hlt := hb j o ho e he hbd
   have hS := hall e he hbd
   rcases h1 with h1 | h1
   · subst h1; exact ⟨hS, hlt⟩
   · have hsz : j < all.size := (Array.getElem?_eq_some_iff.1 ho).1
     have hp : all[e.on]? = some all[e.on] := Array.getElem?_eq_getElem (by omega)
     obtain ⟨k1, k2⟩ := ih e.on _ (by omega) hp (fun e' he' hb' => hd e.on _ hS hp e' he' hb') i h1
     exact ⟨k1, by omega⟩
structure OrdOK (all : Array Oper) (c : Nat → List Nat × List Nat) : Prop where
 back : Back all
 slot : ∀ (i j : Nat) (o p : Oper) (t : Nat), all[i]? = some o → all[j]? = some p → i ≠ j → o.dst = some t → t ∈ ubzu_ all p → (i < j ∧ (bits all j).testBit i = true) ∨ (j < i ∧ (bits all i).testBit j = true)
 mem : ∀ (i j : Nat) (o p : Oper), all[i]? = some o → all[j]? = some p → i ≠ j → ∀ k, k ∈ (c i).1 → k ∈ (c j).2 → (i < j ∧ (bits all j).testBit i = true) ∨ (j < i ∧ (bits all i).testBit j = true)
theorem ub0i_ {i j : Nat} (hne : i ≠ j) (h : ub21_ (Region.before all) i j = true) : (i < j ∧ (bits all j).testBit i = true) ∨ (j < i ∧ (bits all i).testBit j = true) := by
 unfold ub21_ at h
 cases hb : Nat.blt i j with
 | true =>
   rw [hb] at h
   exact .inl ⟨by rwa [Nat.blt_eq] at hb, h⟩
 | false =>
   rw [hb] at h
   refine .inr ⟨?_, h⟩
   rw [← Bool.not_eq_true, Nat.blt_eq] at hb
   omega
theorem ub71_ : ∀ {l m : List Nat}, ub68_ l m = true → ∀ k, k ∈ l → k ∉ m := by
 intro l
 induction l with
 | nil => intro m _ k h; cases h
 | cons x l ih =>
   intro m h k hk
   simp only [ub68_, Bool.and_eq_true, Bool.not_eq_true'] at h
   rcases List.mem_cons.1 hk with rfl | hk
   · intro hm; rw [ubub_.2 hm] at h; cases h.1
   · exact ih h.2 k hk
theorem ub58_ {cl : List (List Nat × List Nat)} {c : Nat → List Nat × List Nat} (hc : cl = (List.range all.size).map c) (h : ubzv_ all cl = true) : OrdOK all c := by
 unfold ubzv_ at h
 simp only [Bool.and_eq_true, List.all_eq_true, List.mem_range] at h
 obtain ⟨h1, h2⟩ := h
 have hget : ∀ {i : Nat} {o : Oper}, all[i]? = some o → i < all.size ∧ all.getD i default = o := fun {i o} ho =>
  ⟨(Array.getElem?_eq_some_iff.1 ho).1, by rw [Array.getD_eq_getD_getElem?, ho]; rfl⟩
 have hcl : ∀ i, i < all.size → cl.getD i ([], []) = c i := by
  intro i hi
  rw [hc, List.getD_eq_getElem?_getD, List.getElem?_map, List.getElem?_range hi]
  rfl
 refine ⟨fun i o ho e he hb => ?_, fun i j o p t ho hp hne hd hn => ?_, fun i j o p ho hp hne k h3 h4 => ?_⟩
 · obtain ⟨hi, hg⟩ := hget ho
   have := h1 i hi
   rw [hg] at this
   have := this e (by simpa using he)
   rw [hb] at this
   simpa [Nat.blt_eq] using this
 · obtain ⟨hi, hg⟩ := hget ho
   obtain ⟨hj, hg'⟩ := hget hp
   have := h2 i hi j hj
   rw [hg, hg', hd] at this
   have hbeq : Nat.beq i j = false := by rw [← Bool.not_eq_true]; exact fun hh => hne (Nat.eq_of_beq_eq_true hh)
   rw [hbeq] at this
   simp only [Bool.false_or, Bool.and_eq_true, Bool.or_eq_true, Bool.not_eq_true'] at this
   rcases this.1 with h | h
   · exact absurd hn (by simpa using h)
   · exact ub0i_ hne h
 · obtain ⟨hi, hg⟩ := hget ho
   obtain ⟨hj, hg'⟩ := hget hp
   have := h2 i hi j hj
   have hbeq : Nat.beq i j = false := by rw [← Bool.not_eq_true]; exact fun hh => hne (Nat.eq_of_beq_eq_true hh)
   rw [hbeq, hcl i hi, hcl j hj] at this
   simp only [Bool.false_or, Bool.and_eq_true, Bool.or_eq_true, Bool.not_eq_true'] at this
   rcases this.2 with h | h
   · exact absurd h4 (ub71_ h k h3)
   · exact ub0i_ hne h
end
section
variable {P : Program} {fr : Fr} {free free' : Nat → Prop} {self : Nat} {σ σ' : Nat → Option Obj} {w w' : World} {G G' : Gh} {I : Im}
theorem ubpp_ {all : Array Oper} {o : Oper} {t : Nat} (h : t ∈ ubyq_ o ∨ t ∈ umk_ all o ∨ o.dst = some t) : t ∈ ubzu_ all o := by
 unfold ubzu_
 simp only [List.mem_append]
 rcases h with h | h | h
 · exact .inl (.inl h)
 · refine .inl (.inr ?_)
   unfold umk_ at h
   exact h
 · exact .inr (by rw [h]; simp)
theorem ub82_ {self : Nat} {u : Upd} {k : Nat} (hk : k ∈ keysW u.wr) : (self ≤ k ∧ k < self + 8) ∨ k ∈ u.far self := by
 obtain ⟨p, hp, rfl⟩ := List.mem_map.1 hk
 cases h : ubr7_ self p.1 with
 | true => exact .inl (by simpa only [ubr7_, Bool.and_eq_true, Nat.ble_eq, Nat.blt_eq] using h)
 | false => exact .inr (List.mem_map.2 ⟨p, List.mem_filter.2 ⟨hp, by rw [h]; rfl⟩, rfl⟩)
theorem ucbe_ {σ : Nat → Option Obj} {self : Nat} {u : Upd} (h : wrOK σ self u = true) {k : Nat} (hk : k ∈ keysW u.wr) : (self ≤ k ∧ k < self + 8) ∨ (σ k).isSome = true := by
 unfold wrOK at h
 rw [List.all_eq_true] at h
 obtain ⟨p, hp, rfl⟩ := List.mem_map.1 hk
 have := h p hp
 simp only [ubr7_, Bool.or_eq_true, Bool.and_eq_true, Nat.ble_eq, Nat.blt_eq] at this
 exact this
theorem ubys_ {all : Array Oper} {n0 i : Nat} {F : List Nat} {σ : Nat → Option Obj} {k : Nat} (h : (seen all true n0 i F σ k).isSome = true) :
 k ∈ F ∧ seen all true n0 i F σ k = σ k ∧ (k < n0 ∨ (bits all i).testBit ((k - n0) / 8) = true) := by
 unfold seen at h ⊢
 simp only [cond_true] at h ⊢
 cases hb : (hasN k F && (Nat.blt k n0 || ((Region.before all).getD i 0).testBit ((k - n0) / 8))) with
 | false => rw [hb] at h; cases h
 | true =>
   rw [Bool.and_eq_true, Bool.or_eq_true, Nat.blt_eq] at hb
   exact ⟨ubub_.1 hb.1, rfl, hb.2⟩
def freeS (n0 : Nat) (S : Nat → Bool) (n : Nat) : Nat → Prop := fun k => n0 ≤ k ∧ ∀ j, j < n → S j = true → ¬ (n0 + 8 * j ≤ k ∧ k < n0 + 8 * j + 8)
theorem ucbf_ {listed : Array Bool} {i j : Nat} (hi : i < listed.size) : (listed.setIfInBounds i true).getD j false = (decide (j = i) || listed.getD j false) := by
 by_cases h : j = i
 · subst h; simp [hi]
 · rw [getD_set_ne false (fun e => h e.symm)]; simp [h]
theorem uccd_ {E : Env} (hE : EnvOK P fr.dr E) {N n0 : Nat} {all : Array Oper} (hgo : GuardsOK all) (hdst : ∀ (j : Nat) o d, all[j]? = some o → o.dst = some d → d < N ∧ fr.fx d = none)
 {L : Nat → Info} {sl0 : Nat → SV} {σ0 : Nat → Option Obj} (hF : ∀ j, j < all.size → ∃ o r, Fact E all n0 L sl0 σ0 j o r) (hO : OrdOK all fun i => (L i).c) {Q : Exit → Act → World → Prop}
 (hQ : ∀ a' w' G', SimF P N fr (fun k => n0 + 8 * all.size ≤ k) (DS all (fun _ => true)) (slF all L (fun _ => true) sl0 all.size) (stF L (fun _ => true) σ0 all.size) a' w' G' → Q .normal a' w') :
 ∀ (fuel : Nat) (listed : Array Bool) (a : Act) (w : World) (G : Gh), listed.size = all.size → ((List.range all.size).filter fun j => !listed.getD j false).length ≤ fuel →
  Down all (fun j => listed.getD j false) →
  SimF P N fr (freeS n0 (fun j => listed.getD j false) all.size) (DS all (fun j => listed.getD j false)) (slF all L (fun j => listed.getD j false) sl0 all.size) (stF L (fun j => listed.getD j false) σ0 all.size) a w G →
  wpAny P .any all Q fuel listed a w := by
 have hgetD : ∀ {i : Nat} {o : Oper}, all[i]? = some o → i < all.size ∧ all.getD i default = o := fun {i o} ho =>
  ⟨(Array.getElem?_eq_some_iff.1 ho).1, by rw [Array.getD_eq_getD_getElem?, ho]; rfl⟩
 have hdone : ∀ (listed : Array Bool), listed.size = all.size → Region.ready .any all listed = [] → ∀ j, j < all.size → listed.getD j false = true := by
  intro listed hsz hr
  have : ∀ n j, j < n → j < all.size → listed.getD j false = true := by
   intro n
   induction n with
   | zero => intro j h; omega
   | succ n ih =>
     intro j hj hja
     apply Classical.byContradiction
     intro hn
     have hm : j ∈ Region.ready .any all listed := by
      rw [mem_ready]
      refine ⟨?_, all[j], Array.getElem?_eq_getElem hja, fun e he hb => ?_⟩
      · have hj' : j < listed.size := by omega
        simp only [Array.getD_eq_getD_getElem?, Array.getElem?_eq_getElem hj', Option.getD_some, Bool.not_eq_true] at hn ⊢
        exact hn
      · have hlt := hO.back j _ (Array.getElem?_eq_getElem hja) e he hb
        exact ih e.on (by omega) (by omega)
     rw [hr] at hm; cases hm
  intro j hj
  exact this (j + 1) j (by omega) hj
 have hfin : ∀ (listed : Array Bool) (a : Act) (w : World) (G : Gh), (∀ j, j < all.size → listed.getD j false = true) →
  SimF P N fr (freeS n0 (fun j => listed.getD j false) all.size) (DS all (fun j => listed.getD j false)) (slF all L (fun j => listed.getD j false) sl0 all.size) (stF L (fun j => listed.getD j false) σ0 all.size) a w G → Q .normal a w := by
  intro listed a w G hall hs
  have e1 : slF all L (fun j => listed.getD j false) sl0 all.size = slF all L (fun _ => true) sl0 all.size := by
   funext t; exact ub7x_ fun j hj _ => hall j hj
  have e2 : stF L (fun j => listed.getD j false) σ0 all.size = stF L (fun _ => true) σ0 all.size := by
   funext t; exact ub7y_ fun j hj _ => hall j hj
  rw [e1, e2] at hs
  exact hQ a w G (hs.weaken (fun k hk => ⟨by omega, fun j hj _ => by omega⟩) fun t ht => ht.mono fun _ _ => rfl)
 intro fuel
 induction fuel with
 | zero =>
   intro listed a w G hsz hfu hdn hs
   have hall : ∀ j, j < all.size → listed.getD j false = true := by
    intro j hj
    apply Classical.byContradiction
    intro hn
    have : j ∈ (List.range all.size).filter fun j => !listed.getD j false := List.mem_filter.2 ⟨List.mem_range.2 hj, by simpa using hn⟩
    rw [List.eq_nil_of_length_eq_zero (Nat.le_zero.1 hfu)] at this
    cases this
   refine ⟨?_, hfin listed a w G hall hs⟩
   rw [List.eq_nil_iff_forall_not_mem]
   intro j hj
   obtain ⟨h1, o, ho, _⟩ := mem_ready.1 hj
   have hj' : j < all.size := (hgetD ho).1
   have := hall j hj'
   have hj2 : j < listed.size := by omega
   simp only [Array.getD_eq_getD_getElem?, Array.getElem?_eq_getElem hj2, Option.getD_some] at h1 this
   rw [this] at h1; cases h1
 | succ fuel ih =>
   intro listed a w G hsz hfu hdn hs
   refine ⟨fun hr => hfin listed a w G (hdone listed hsz hr) hs, fun i hi => ?_⟩
   obtain ⟨hun, o, ho, hall⟩ := mem_ready.1 hi
   obtain ⟨hin, hget⟩ := hgetD ho
   have hun' : listed.getD i false = false := by
    have hj2 : i < listed.size := by omega
    simp only [Array.getD_eq_getD_getElem?, Array.getElem?_eq_getElem hj2, Option.getD_some] at hun ⊢
    exact hun
   obtain ⟨o', r, hf⟩ := hF i hin
   have eo : o' = o := by
    have := hf.op
    rw [ho] at this
    cases this; rfl
   subst eo
   have hpre : ∀ j, (bits all i).testBit j = true → listed.getD j false = true ∧ j < i := ub81_ hO.back hdn (i + 1) i o' (by omega) ho hall
   have hpost : ∀ j, (bits all j).testBit i = true → j < all.size → listed.getD j false = false := by
    intro j hb hj
    rw [← Bool.not_eq_true]
    intro hS
    have hp : all[j]? = some all[j] := Array.getElem?_eq_getElem hj
    have := (ub81_ hO.back hdn (j + 1) j _ (by omega) hp (fun e he hb => hdn j _ hS hp e he hb) i hb).1
    rw [hun'] at this; cases this
   have hord : ∀ j, j < all.size → ((i < j ∧ (bits all j).testBit i = true) ∨ (j < i ∧ (bits all i).testBit j = true)) → listed.getD j false = decide (j < i) := by
    intro j hj h
    rcases h with ⟨h1, h2⟩ | ⟨h1, h2⟩
    · rw [hpost j h2 hj]; symm; rw [decide_eq_false_iff_not]; omega
    · rw [(hpre j h2).1]; symm; rw [decide_eq_true_eq]; exact h1
   have hcls : ∀ j oj, all[j]? = some oj → (L j).c.1 = (L j).u.far (n0 + 8 * j) ∧ wrOK (seen all true n0 j (L j).c.2 (stF L (fun _ => true) σ0 j)) (n0 + 8 * j) (L j).u = true := by
    intro j oj hj
    obtain ⟨o'', r'', hf''⟩ := hF j (hgetD hj).1
    exact ⟨hf''.cls, hf''.wr⟩
   have hslot : ∀ t, t ∈ ubzu_ all o' → slF all L (fun _ => true) sl0 i t = slF all L (fun j => listed.getD j false) sl0 all.size t := by
    intro t ht
    rw [← ub56_ (S := fun j => decide (j < i)) (n := all.size) (by omega) (fun j hj => by simpa using hj) (fun j hj _ => by simpa using hj)]
    refine ub7x_ fun j hj hd => ?_
    by_cases e : j = i
    · subst e; rw [hun']; simp
    · have hp : all[j]? = some all[j] := Array.getElem?_eq_getElem hj
      rw [(hgetD hp).2] at hd
      exact (hord j hj ((hO.slot j i _ o' t hp ho e hd ht).symm)).symm
   have hsto : ∀ k, (seen all true n0 i (L i).c.2 (stF L (fun _ => true) σ0 i) k).isSome = true →
    seen all true n0 i (L i).c.2 (stF L (fun _ => true) σ0 i) k = stF L (fun j => listed.getD j false) σ0 all.size k := by
    intro k hk
    obtain ⟨h1, h2, h3⟩ := ubys_ hk
    rw [h2]
    rw [← ub57_ (S := fun j => decide (j < i)) (n := all.size) (by omega) (fun j hj => by simpa using hj) (fun j hj _ => by simpa using hj)]
    refine ub7y_ fun j hj hd => ?_
    by_cases e : j = i
    · subst e; rw [hun']; simp
    · have hp : all[j]? = some all[j] := Array.getElem?_eq_getElem hj
      obtain ⟨hc, hw⟩ := hcls j _ hp
      rcases ub82_ (self := n0 + 8 * j) hd with ⟨k1, k2⟩ | hl
      · have hdiv : (k - n0) / 8 = j := by omega
        rcases h3 with h3 | h3
        · omega
        · rw [hdiv] at h3
          exact (hord j hj (.inr ⟨(hpre j h3).2, h3⟩)).symm
      · exact (hord j hj ((hO.mem j i _ o' hp ho e k (hc ▸ hl) h1).symm)).symm
   refine ub80_ hE ho (self := n0 + 8 * i) (sl0 := slF all L (fun _ => true) sl0 i) hs ?_ ?_ ?_ hf.grd ?_ ?_ hf.val hf.gives hf.gives' hf.calm ?_
   · intro t ht
     exact hslot t (ubpp_ (ht.elim .inl fun h => .inr (.inl h)))
   · intro t ht
     obtain ⟨j, b, p, hg, hp, hd⟩ := ubm7_ ht
     have hh := ubxu_ ho hg
     refine ⟨hh, j, p, ?_, hp, hd⟩
     have hji := hgo.back hh i o' j b ho hg
     have := hO.slot j i p o' t hp ho (by omega) hd (ubpp_ (.inr (.inl ht)))
     show listed.getD j false = true
     rw [hord j (by omega) this.symm]; simpa using hji
   · intro d hd
     refine ⟨hdst i o' d ho hd, fun hD => ?_⟩
     obtain ⟨hh, j, p, hj, hp, hpd⟩ := hD
     have hj : listed.getD j false = true := hj
     have hne : j ≠ i := fun e => by subst e; rw [hun'] at hj; cases hj
     rcases Nat.lt_or_ge j i with h | h
     · exact hgo.uniq hh j i p o' d h hp ho hpd hd
     · exact hgo.uniq hh i j o' p d (by omega) ho hp hd hpd
   · intro k ob hk
     rw [← hsto k (by rw [hk]; rfl)]; exact hk
   · intro k h1 h2
     refine ⟨by omega, fun j hj hS h3 => ?_⟩
     have hS : listed.getD j false = true := hS
     have : j = i := by omega
     subst this
     rw [hun'] at hS; cases hS
   · intro a' w' G' _ hs'
     have hset : ∀ j, (listed.setIfInBounds i true).getD j false = (decide (j = i) || listed.getD j false) := fun j => ucbf_ (by omega)
     have hS' : (fun j => (listed.setIfInBounds i true).getD j false) = fun j => (decide (j = i) || listed.getD j false) := funext hset
     refine ih (listed.setIfInBounds i true) a' w' G' (by simpa using hsz) ?_ ?_ ?_
     · have hlt : ((List.range all.size).filter fun j => !(listed.setIfInBounds i true).getD j false).length < ((List.range all.size).filter fun j => !listed.getD j false).length := by
        have hsub : ((List.range all.size).filter fun j => !(listed.setIfInBounds i true).getD j false) = ((List.range all.size).filter fun j => !listed.getD j false).filter fun j => !decide (j = i) := by
         rw [List.filter_filter]
         refine List.filter_congr fun j _ => ?_
         rw [hset, Bool.not_or]
        rw [hsub]
        refine List.length_filter_lt_length_iff_exists.2 ⟨i, List.mem_filter.2 ⟨List.mem_range.2 hin, by rw [hun']; rfl⟩, by simp⟩
       omega
     · intro j p hj hp e he hb
       have hj : (listed.setIfInBounds i true).getD j false = true := hj
       show (listed.setIfInBounds i true).getD e.on false = true
       rw [hset] at hj ⊢
       rw [Bool.or_eq_true, decide_eq_true_eq] at hj ⊢
       rcases hj with rfl | hj
       · rw [ho] at hp
         cases hp
         exact .inr (hall e he hb)
       · exact .inr (hdn j p hj hp e he hb)
     · rw [hS']
       have e1 : ubmw_ (slF all L (fun j => listed.getD j false) sl0 all.size) o'.dst (mkGrd (L i).tk (L i).g (L i).u.sv) = slF all L (fun j => (decide (j = i) || listed.getD j false)) sl0 all.size := by
        funext t
        rw [u7i_]
        by_cases hd : o'.dst = some t
        · rw [if_pos hd]
          refine (ub94_ (S := fun j => (decide (j = i) || listed.getD j false)) (by simp) (by rw [hget]; exact hd) hin fun j h1 h2 h3 => ?_).symm
          have hp : all[j]? = some all[j] := Array.getElem?_eq_getElem h2
          rw [(hgetD hp).2] at h3
          have := hO.slot i j o' _ t ho hp (by omega) hd (ubpp_ (.inr (.inr h3)))
          have := hord j h2 this
          rw [this]
          simp; omega
        · rw [if_neg hd]
          refine ub7x_ fun j hj h3 => ?_
          have : j ≠ i := fun e => by subst e; rw [hget] at h3; exact hd h3
          simp [this]
       have e2 : ucj_ (stF L (fun j => listed.getD j false) σ0 all.size) (L i).u.wr = stF L (fun j => (decide (j = i) || listed.getD j false)) σ0 all.size := by
        funext k
        by_cases hk : k ∈ keysW (L i).u.wr
        · refine (ub95_ (S := fun j => (decide (j = i) || listed.getD j false)) (by simp) hk hin fun j h1 h2 h3 => ?_).symm
          have hp : all[j]? = some all[j] := Array.getElem?_eq_getElem h2
          have hne : ¬ j = i := by omega
          simp only [hne, decide_false, Bool.false_or]
          rw [← Bool.not_eq_true]
          intro hS
          have hno : ¬ ((i < j ∧ (bits all j).testBit i = true) ∨ (j < i ∧ (bits all i).testBit j = true)) := by
           intro h
           have := hord j h2 h
           rw [hS] at this
           simp at this; omega
          obtain ⟨hci, hwi⟩ := hcls i o' ho
          obtain ⟨hcj, hwj⟩ := hcls j _ hp
          rcases ucbe_ hwj h3 with hkj | hkj
          · rcases ucbe_ hwi hk with hki | hki
            · omega
            · obtain ⟨q1, q2, q3⟩ := ubys_ hki
              have hdiv : (k - n0) / 8 = j := by omega
              rcases q3 with q3 | q3
              · omega
              · rw [hdiv] at q3
                have := (hpre j q3).2
                omega
          · obtain ⟨q1, q2, q3⟩ := ubys_ hkj
            rcases ub82_ (self := n0 + 8 * i) hk with hki | hki
            · have hdiv : (k - n0) / 8 = i := by omega
              rcases q3 with q3 | q3
              · omega
              · rw [hdiv] at q3
                exact hno (.inl ⟨h1, q3⟩)
            · exact hno (hO.mem i j o' _ ho hp (by omega) k (hci ▸ hki) q1)
        · rw [ubud_ hk]
          refine ub7y_ fun j hj h3 => ?_
          have : j ≠ i := fun e => by subst e; exact hk h3
          simp [this]
       rw [← e1, ← e2]
       refine hs'.weaken (fun k hk => ⟨⟨hk.1, fun j hj hS h3 => hk.2 j hj (by simp only [Bool.or_eq_true]; exact .inr hS) h3⟩, ?_⟩) fun t ht => ht.mono fun j hj => by simp only [Bool.or_eq_true]; exact .inr hj
       have := hk.2 i hin (by simp)
       rw [← Bool.not_eq_true]
       simp only [ubr7_, Bool.and_eq_true, Nat.ble_eq, Nat.blt_eq]
       exact this
end
end Go.Ev
namespace Go.Ev
variable [Pins]
structure SimN (P : Program) (N : Nat) (fr : Fr) (st : St) (a : Act) (w : World) (G : Gh) : Prop where
 slots : ∀ t, SlotOK P w G a (st.slots t) (a.tmps.getD t undef)
 defs : a.defers = []
 size : a.tmps.size = N
 fix : ∀ t v, fr.fx t = some v → a.tmps.getD t undef = v
 nogrd : ∀ t tk g s, st.slots t ≠ .grd tk g s
 mem : MemS P fr (fun k => st.n ≤ k) st.sto w G
 drawn : fr.dr = true → fr.w0.drawn ≤ w.drawn
section
variable {dr : Bool}
variable {P : Program} {fr : Fr} {free free' : Nat → Prop} {self : Nat} {σ σ' : Nat → Option Obj} {w w' : World} {G G' : Gh} {I : Im}
theorem ub96_ : ∀ {l : List Oper}, (l.filterMap (·.dst)).Nodup → ∀ (i j : Nat) (o p : Oper) (d : Nat), i < j → l[i]? = some o → l[j]? = some p → o.dst = some d → p.dst ≠ some d := by
 intro l
 induction l with
 | nil => intro _ i j o p d _ h; cases h
 | cons q l ih =>
   intro hn i j o p d hij hi hj ho hp
   cases j with
   | zero => omega
   | succ j =>
     have hj : l[j]? = some p := by simpa using hj
     cases i with
     | zero =>
       have : q = o := by simpa using hi
       subst this
       rw [List.filterMap_cons_some ho] at hn
       exact (List.nodup_cons.1 hn).1 (List.mem_filterMap.2 ⟨p, List.mem_of_getElem? hj, hp⟩)
     | succ i =>
       have hn' : (l.filterMap (·.dst)).Nodup := by
        cases hq : q.dst with
        | none => rw [List.filterMap_cons_none hq] at hn; exact hn
        | some e => rw [List.filterMap_cons_some hq] at hn; exact (List.nodup_cons.1 hn).2
       exact ih hn' i j o p d (by omega) (by simpa using hi) hj ho hp
theorem ub4d_ {all : Array Oper} (h : uwn_ all = true → u54_ (dsts all) = true ∧ uber_ all = true) : GuardsOK all := by
 refine ⟨fun hh i j o p d hij hi hj ho => ?_, fun hh i o j b hi hg => ?_⟩
 · exact ub96_ (ubxt_ (h hh).1) i j o p d hij (by simpa using hi) (by simpa using hj) ho
 · have h2 := (h hh).2
   unfold uber_ at h2
   rw [List.all_eq_true] at h2
   have := h2 i (List.mem_range.2 (Array.getElem?_eq_some_iff.1 hi).1)
   rw [Array.getD_eq_getD_getElem?, hi] at this
   simp only [Option.getD_some, hg, Nat.blt_eq] at this
   exact this
theorem ub72_ {Ω : Type} {E : Env} (hE : EnvOK P fr.dr E) (hmix : P.follows .mixedOrders = true) {N : Nat} {ops : Array Oper} {draw : Bool} {id : Nat} {st : St} {K : St → Option Ω} {ω : Ω} {Q : Exit → Act → World → Prop}
 (hdst : ∀ (j : Nat) o d, ops[j]? = some o → o.dst = some d → d < N ∧ fr.fx d = none) {a : Act} (h : ub1i_ E ops draw st K = some ω) (hs : SimN P N fr st a w G)
 (hQ : ∀ st' a' w' G', SimN P N fr st' a' w' G' → K st' = some ω → Q .normal a' w') : (Code.region id ops draw).wp P Q a w := by
 unfold ub1i_ at h
 have hgo : GuardsOK ops := by
  refine ub4d_ fun hh => ?_
  rw [hh] at h
  cases h1 : u54_ (dsts ops) <;> cases h2 : uber_ ops <;> rw [h1, h2] at h <;> first | exact ⟨rfl, rfl⟩ | cases h
 have h : evOps E ops draw st.n ops.toList 0 st [] (fun st' cl => bif !draw || ubzv_ ops cl.reverse then
  K { slots := bif uwn_ ops then ubeq_ st'.slots else st'.slots, sto := st'.sto, n := st.n + 8 * ops.size } else none) = some ω := by
  cases hc : (uwn_ ops && !(u54_ (dsts ops) && uber_ ops)) with
  | true => rw [hc] at h; cases h
  | false => rw [hc] at h; exact h
 have fin : ∀ (st' : St) (S : Nat → Bool) (a' : Act) (w' : World) (G' : Gh), SimF P N fr (fun k => st.n + 8 * ops.size ≤ k) (DS ops S) st'.slots st'.sto a' w' G' →
  K { slots := bif uwn_ ops then ubeq_ st'.slots else st'.slots, sto := st'.sto, n := st.n + 8 * ops.size } = some ω → Q .normal a' w' := by
  intro st' S a' w' G' hs' hK
  refine hQ _ a' w' G' ⟨fun t => ?_, hs'.defs, hs'.size, hs'.fix, fun t tk g s => ?_, hs'.mem, hs'.drawn⟩ hK
  · have := hs'.slots t
    cases hh : uwn_ ops with
    | false => exact this
    | true =>
      simp only [cond_true, ubeq_]
      split
      · exact (SR.undef _).slotOK
      · exact this
  · cases hh : uwn_ ops with
    | false =>
      intro h
      obtain ⟨h1, h2⟩ := hs'.toks t tk g s h
      cases tk with
      | nil => exact h1 rfl
      | cons p r =>
        have := (h2 p List.mem_cons_self).1
        rw [hh] at this; cases this
    | true =>
      simp only [cond_true, ubeq_]
      split
      · intro h; cases h
      · rename_i hn
        intro h
        exact hn _ _ _ h
 cases draw with
 | false =>
   refine wp_region ?_
   have := ub55_ hE hgo hdst (Q := Q) ops.toList 0 st [] a w G h (by simp) (by simp) ⟨hs.slots, hs.defs, hs.size, hs.fix, fun t tk g s hh => absurd hh (hs.nogrd t tk g s), hs.mem.shrink fun k hk => by simpa using hk, hs.drawn⟩
    (fun st' cl' a' w' G' hs' _ hK => fin st' _ a' w' G' hs' hK)
   rw [List.range_eq_range']
   simpa using this
 | true =>
   obtain ⟨L, hF, hK⟩ := ub4c_ (sl0 := st.slots) (σ0 := st.sto) ops.toList 0 st (fun _ => ⟨[], true, ⟨.undef, []⟩, ([], [])⟩) h (by simp) (by simp) rfl rfl (fun j hj => by omega)
   refine wp_region_any hmix ?_
   cases ho : ubzv_ ops ((List.range ops.size).map fun j => (L j).c) with
   | false => simp only [List.reverse_reverse, ho, Bool.not_true, Bool.or_false, cond_false] at hK; cases hK
   | true =>
     simp only [List.reverse_reverse, ho, Bool.not_true, Bool.false_or, cond_true] at hK
     have hrep : ∀ j, (Array.replicate ops.size false).getD j false = false := by
      intro j
      simp only [Array.getD_eq_getD_getElem?, Array.getElem?_replicate]
      split <;> rfl
     have e1 : slF ops L (fun j => (Array.replicate ops.size false).getD j false) st.slots ops.size = st.slots := by
      rw [ub56_ (i := 0) (Nat.zero_le _) (fun j hj => by omega) (fun j _ _ => hrep j)]; rfl
     have e2 : stF L (fun j => (Array.replicate ops.size false).getD j false) st.sto ops.size = st.sto := by
      rw [ub57_ (i := 0) (Nat.zero_le _) (fun j hj => by omega) (fun j _ _ => hrep j)]; rfl
     refine uccd_ (n0 := st.n) (sl0 := st.slots) (σ0 := st.sto) hE hgo hdst hF (ub58_ rfl ho) (fun a' w' G' hs' => fin ⟨slF ops L (fun _ => true) st.slots ops.size, stF L (fun _ => true) st.sto ops.size, 0⟩ _ a' w' G' hs' hK) ops.size _ a _ G (by simp)
      (Nat.le_trans (List.length_filter_le _ _) (by simp)) (fun j o hj => ?_) ?_
     · have hj : (Array.replicate ops.size false).getD j false = true := hj
       rw [hrep j] at hj; cases hj
     · rw [e1, e2]
       refine SimF.draws ⟨hs.slots, hs.defs, hs.size, hs.fix, fun t tk g s hh => absurd hh (hs.nogrd t tk g s), hs.mem.shrink fun k hk => hk.1, hs.drawn⟩ _ (Nat.le_succ _)
def exOf : Ex → Exit
 | .normal => .normal
 | .exit i => .exit i
 | .ret => .ret
theorem ub3h_ {Q : Exit → Act → World → Prop} {K : Act → World → Prop} {e : Ex} {a : Act} {w : World} (h : match e with | .normal => K a w | e => Q (exOf e) a w) : Exit.then K Q (exOf e) a w := by
 cases e <;> exact h
def OutS (P : Program) (w : World) (I : Im) (a : Act) (e : Exit) (hs : Nat) (bs : List Nat) : (l : List (Ex × Kp)) → OutT l → Prop
 | [], x => Empty.elim x
 | [o], x => e = exOf o.1 ∧ ∃ bs', ShL P w I o.2.sh x (o.2.tm.map fun t => a.tmps.getD t undef) bs' ∧ bs'.Nodup ∧ ∀ b ∈ bs', b ∈ bs ∨ hs ≤ b
 | o :: p :: r, x => Sum.casesOn (motive := fun _ => Prop) x (fun y => e = exOf o.1 ∧ ∃ bs', ShL P w I o.2.sh y (o.2.tm.map fun t => a.tmps.getD t undef) bs' ∧ bs'.Nodup ∧ ∀ b ∈ bs', b ∈ bs ∨ hs ≤ b)
  (fun y => OutS P w I a e hs bs (p :: r) y)
def ub59_ (P : Program) (dr : Bool) (N : Nat) (s : CSpec) (x : OutT s.outs) (a0 : Act) (w : World) (I : Im) (bs : List Nat) : Exit → Act → World → Prop := fun e a' w' =>
 a'.defers = [] ∧ a'.tmps.size = N ∧ (∀ t, hasN t s.wrs = false → a'.tmps.getD t undef = a0.tmps.getD t undef) ∧ (dr = true → w.drawn ≤ w'.drawn) ∧ ∃ I', After (· ∈ bs) w I w' I' ∧ OutS P w' I' a' e w.heap.size bs s.outs x
def AlEq (al : List (Nat × Nat)) (a : Act) : Prop := ∀ t j, lookN al t = some j → a.tmps.getD t undef = a.tmps.getD j undef
def CutOK (P : Program) (dr : Bool) (N : Nat) (s : CSpec) (c : Code) : Prop :=
 ∀ (w : World) (I : Im) (a : Act) (v : TupR s.inn.sh) (bs : List Nat) (x : OutT s.outs), Mem w I → a.defers = [] → a.tmps.size = N → AlEq s.al a → ShL P w I s.inn.sh v (s.inn.tm.map fun t => a.tmps.getD t undef) bs → bs.Nodup →
  s.F v = some x → c.wp P (ub59_ P dr N s x a w I bs) a w
theorem ub0j_ {a : Act} : ∀ {tm : List Nat} {l : List SV}, (∀ (j : Nat) (s : SV) (t : Nat), l[j]? = some s → tm[j]? = some t → SR P w G s (a.tmps.getD t undef)) → ∀ t, SR P w G (ubtw_ tm l t) (a.tmps.getD t undef) := by
 intro tm
 induction tm with
 | nil => intro l _ t; simp only [ubtw_]; exact SR.undef _
 | cons d tm ih =>
   intro l hl t
   cases l with
   | nil => simp only [ubtw_]; exact SR.undef _
   | cons s l =>
     simp only [ubtw_]
     cases hb : Nat.beq t d with
     | true =>
       have e := Nat.eq_of_beq_eq_true hb
       subst e
       exact hl 0 s t rfl rfl
     | false => exact ih (fun j s' t' h1 h2 => hl (j + 1) s' t' (by simpa using h1) (by simpa using h2)) t
theorem ub14_ : ∀ (l : List (Nat × Option Obj)) (i : Nat), (lookN l i).getD none = ucj_ (fun _ => none) l i := by
 intro l
 induction l with
 | nil => intro i; rfl
 | cons p r ih =>
   intro i
   obtain ⟨j, o⟩ := p
   simp only [lookN, ucj_]
   cases hb : Nat.beq i j with
   | true => rfl
   | false => exact ih i
theorem ub73_ : ∀ {l : List Sh} {x : TupR l} {n : Nat}, ub41_ (mkL l x n) n = n + cntL l := by
 intro l
 induction l with
 | nil => intro x n; rfl
 | cons a l ih =>
   intro x n
   cases l with
   | nil => exact (ub1x_ a x n).trans (by simp [cntL])
   | cons b l =>
     have : ub41_ (mkL (a :: b :: l) x n) n = ub41_ (mkL (b :: l) x.2 (mkC a x.1 n).nx) (mkC a x.1 n).nx := rfl
     rw [this, ih, ub1x_]
     simp only [cntL]; omega
theorem ub6a_ {N : Nat} {k : Kp} {v : TupR k.sh} {a : Act} {bs : List Nat} (hd : a.defers = []) (hN : a.tmps.size = N) (hfx : ∀ t v, fr.fx t = some v → a.tmps.getD t undef = v) (haf : After fr.gv fr.w0 fr.i0 w I) (hdr : fr.dr = true → fr.w0.drawn ≤ w.drawn)
 (h : ShL P w I k.sh v (k.tm.map fun t => a.tmps.getD t undef) bs) (hnd : bs.Nodup) (hbs : ∀ b ∈ bs, fr.owned b) : ∃ G', SimN P N fr (mkSt k v) a w G' := by
 let G0 : Gh := ⟨I, fun _ _ => none, fun _ => none, fun _ => none⟩
 have hm0 : MemS P fr (fun _ => True) (fun _ => none) w G0 := ⟨fun k o h => (by cases h), fun j k o o' b h => (by cases h), haf, fun k _ => ⟨rfl, rfl, rfl, fun _ => rfl⟩⟩
 obtain ⟨G', h1, h2, h3, h4⟩ := ub9w_ (n := 0) (G := G0) hm0 h hnd (fun b hb => ⟨hbs b hb, fun j o h => (by cases h)⟩) (fun _ _ _ => trivial)
 have hsr : ∀ t, SR P w G' ((mkSt k v).slots t) (a.tmps.getD t undef) := by
  refine ub0j_ fun j s t hj ht => ?_
  rw [List.getElem?_map] at hj
  cases hm : (mkL k.sh v 0)[j]? with
  | none => rw [hm] at hj; cases hj
  | some m =>
    rw [hm] at hj
    cases hj
    exact h4 j m _ hm (by rw [List.getElem?_map, ht]; rfl)
 refine ⟨G', fun t => (hsr t).slotOK, hd, hN, hfx, fun t tk g s h => ?_, ?_, hdr⟩
 · have := hsr t
   rw [h] at this
   exact this.not_grd
 · have e : (mkSt k v).sto = ucj_ (fun _ => none) ((mkL k.sh v 0).flatMap (·.obs)) := funext fun i => ub14_ _ i
   rw [e]
   refine h1.mem.shrink fun j hj => ⟨trivial, fun hh => ?_⟩
   have : (mkSt k v).n = 0 + cntL k.sh := ub73_
   omega
theorem ub15_ {N : Nat} {al : List (Nat × Nat)} {k : Kp} {v : TupR k.sh} {a : Act} (hs : SimN P N fr (mkSt k v) a w G) (hal : AlEq al a) : SimN P N fr (mkStA al k v) a w G := by
 refine ⟨fun t => ?_, hs.defs, hs.size, hs.fix, fun t tk g s => ?_, hs.mem, hs.drawn⟩
 · show SlotOK P w G a (addAl al (mkSt k v).slots t) _
   unfold addAl
   split
   · rename_i j hj
     rw [hal t j hj]; exact hs.slots j
   · exact hs.slots t
 · show addAl al (mkSt k v).slots t ≠ _
   unfold addAl
   split
   · exact hs.nogrd _ tk g s
   · exact hs.nogrd _ tk g s
theorem ub83_ {N : Nat} {st : St} {a : Act} (hs : SimN P N fr st a w G) : ∀ {al : List (Nat × Nat)}, alOK al st.slots = true → AlEq al a := by
 have hsr : ∀ t k g, st.slots t = .obj k g → G.val k g = some (a.tmps.getD t undef) := by
  intro t k g h
  have := hs.slots t
  rw [h] at this
  exact ubxn_ this
 intro al
 induction al with
 | nil => intro _ t j h; cases h
 | cons p r ih =>
   intro h t j hj
   simp only [alOK, Bool.and_eq_true] at h
   obtain ⟨x, y⟩ := p
   simp only [lookN] at hj
   cases hb : Nat.beq t x with
   | false => rw [hb] at hj; exact ih h.2 t j hj
   | true =>
     rw [hb] at hj
     have e1 := Nat.eq_of_beq_eq_true hb
     have e2 : y = j := Option.some.inj hj
     subst e1 e2
     have hh := h.1
     unfold sameH at hh
     split at hh
     · rename_i k g k' g' h1 h2
       simp only [Bool.and_eq_true] at hh
       have q1 := Nat.eq_of_beq_eq_true hh.1
       have q2 := Nat.eq_of_beq_eq_true hh.2
       subst q1 q2
       have v1 := hsr _ _ _ h1
       have v2 := hsr _ _ _ h2
       rw [v1] at v2
       exact Option.some.inj v2
     · cases hh
theorem SimN.frz {N : Nat} {st : St} {a : Act} (hs : SimN P N fr st a w G) (k : Kp) : ∃ G', GLe w G w G' ∧ SimN P N fr (frzSt k st) a w G' := by
 obtain ⟨G', h1, h2⟩ := ub3b_ hs.mem k.sh (k.tm.map st.slots)
 exact ⟨G', h1, fun t => (hs.slots t).mono h1 fun _ _ _ _ => Iff.rfl, hs.defs, hs.size, hs.fix, hs.nogrd, h2, hs.drawn⟩
theorem ub97_ {N : Nat} {fs : Nat → Option FSpec} (hE : ∀ f sp, fs f = some sp → uo_ P f ∧ FunOK P f sp) {k : Kp} {st : St} {v : TupR k.sh} {a : Act} (hs : SimN P N fr st a w G) (h : ubwd_ fs k (frzSt k st) = some v) :
 ∃ G', SimN P N fr (mkSt k v) a w G' := by
 obtain ⟨G0, _, hs⟩ := hs.frz k
 have hsr : ∀ t, SR P w G0 (st.slots t) (a.tmps.getD t undef) := by
  intro t
  have h1 : SlotOK P w G0 a (st.slots t) (a.tmps.getD t undef) := hs.slots t
  have h2 : ∀ tk g s, st.slots t ≠ .grd tk g s := hs.nogrd t
  generalize st.slots t = s at h1 h2
  cases s <;> first | exact h1 | exact absurd rfl (h2 _ _ _)
 obtain ⟨bs, h1, h2, h3⟩ := ubtn_ hs.mem hE (vs := k.tm.map fun t => a.tmps.getD t undef) h (by simp) (fun j s v hj hv => by
  rw [List.getElem?_map] at hj hv
  cases ht : k.tm[j]? with
  | none => rw [ht] at hj; cases hj
  | some t =>
    rw [ht] at hj hv
    cases hj; cases hv
    exact hsr t)
 refine ub6a_ hs.defs hs.size hs.fix hs.mem.after hs.drawn h1 h2 fun b hb => ?_
 obtain ⟨k', _, o, ho, hbo⟩ := h3 b hb
 exact ubhu_ (hs.mem.objs k' o ho) hbo
theorem SimN.sr {N : Nat} {st : St} {a : Act} (hs : SimN P N fr st a w G) (x : Operand) : SR P w G (evalO st.slots x) (a.eval x) := by
 have := ub0f_ (x := x) (tk := []) (fun t _ => hs.slots t) (ubhv_ a)
 have e : (evalO st.slots x).strip [] = evalO st.slots x := by
  have hn : ∀ tk g s, evalO st.slots x ≠ .grd tk g s := by
   intro tk g s h
   cases x with
   | tmp t => exact hs.nogrd t tk g s h
   | const v =>
     have := ub0e_ (P := P) (w := w) (G := G) v
     rw [show ub2u_ v = _ from h] at this
     exact this.not_grd
   | func f => cases h
   | global g => cases h
  generalize evalO st.slots x = s at hn
  cases s <;> first | rfl | exact absurd rfl (hn _ _ _)
 rw [e] at this
 exact this
def ubuf_ (P : Program) (dr : Bool) (N : Nat) (ok : Nat → Bool) (E : Env) : Code → Nat → Prop
 | .seq a b, n => ubuf_ P dr N ok E a n ∧ ubuf_ P dr N ok E b (n + nodes a)
 | .cond c a b, n => match E.cut n with
   | some s => s.wrs.all ok = true ∧ CutOK P dr N s (.cond c a b)
   | none => ubuf_ P dr N ok E a (n + 1) ∧ ubuf_ P dr N ok E b (n + 1 + nodes a)
 | .block _ b, n => ubuf_ P dr N ok E b n
 | .loop b, n => match E.cut n with
   | some s => s.wrs.all ok = true ∧ CutOK P dr N s (.loop b)
   | none => True
 | _, _ => True
def u7j_ (E : Env) : Code → Nat → List (CSpec × Code)
 | .seq a b, n => u7j_ E a n ++ u7j_ E b (n + nodes a)
 | .cond c a b, n => match E.cut n with
   | some s => [(s, .cond c a b)]
   | none => u7j_ E a (n + 1) ++ u7j_ E b (n + 1 + nodes a)
 | .block _ b, n => u7j_ E b n
 | .loop b, n => match E.cut n with
   | some s => [(s, .loop b)]
   | none => []
 | _, _ => []
def AllCuts (P : Program) (dr : Bool) (N : Nat) (ok : Nat → Bool) : List (CSpec × Code) → Prop
 | [] => True
 | p :: r => (p.1.wrs.all ok = true ∧ CutOK P dr N p.1 p.2) ∧ AllCuts P dr N ok r
theorem AllCuts.append {N : Nat} {ok : Nat → Bool} : ∀ {l l' : List (CSpec × Code)}, AllCuts P dr N ok (l ++ l') → AllCuts P dr N ok l ∧ AllCuts P dr N ok l' := by
 intro l
 induction l with
 | nil => intro l' h; exact ⟨trivial, h⟩
 | cons p r ih => intro l' h; exact ⟨⟨h.1, (ih h.2).1⟩, (ih h.2).2⟩
theorem ub3i_ {N : Nat} {ok : Nat → Bool} {E : Env} : ∀ {c : Code} {n : Nat}, AllCuts P dr N ok (u7j_ E c n) → ubuf_ P dr N ok E c n := by
 intro c
 induction c with
 | seq a b iha ihb => intro n h; exact ⟨iha h.append.1, ihb h.append.2⟩
 | cond c a b iha ihb =>
   intro n h
   simp only [ubuf_]
   simp only [u7j_] at h
   split at h
   · rename_i s hs
     exact h.1
   · rename_i hs
     exact ⟨iha h.append.1, ihb h.append.2⟩
 | block i b ih => intro n h; exact ih (n := n) h
 | loop b ih =>
   intro n h
   simp only [ubuf_]
   simp only [u7j_] at h
   split at h
   · rename_i s hs
     exact h.1
   · rename_i hs
     trivial
 | _ => intro n h; trivial
def dstOK (ok : Nat → Bool) : Code → Bool
 | .seq a b => dstOK ok a && dstOK ok b
 | .cond _ a b => dstOK ok a && dstOK ok b
 | .block _ b => dstOK ok b
 | .loop b => dstOK ok b
 | .region _ ops _ => ops.toList.all fun o => match o.dst with
   | some d => ok d
   | none => true
 | _ => true
theorem ub84_ {N : Nat} {st : St} {a a' : Act} {wrs ks bs bs' : List Nat} {I' : Im} {k : Kp} {y : TupR k.sh} (hs : SimN P N fr st a w G) (hblk : BlksOf st.sto G ks bs)
 (hwr : ∀ d, hasN d wrs = true → fr.fx d = none) (hd : a'.defers = []) (hN : a'.tmps.size = N) (hfr : ∀ t, hasN t wrs = false → a'.tmps.getD t undef = a.tmps.getD t undef)
 (haft : After (· ∈ bs) w G.im w' I') (hdr : fr.dr = true → w.drawn ≤ w'.drawn) (hsh : ShL P w' I' k.sh y (k.tm.map fun t => a'.tmps.getD t undef) bs') (hnd : bs'.Nodup) (hown : ∀ b ∈ bs', b ∈ bs ∨ w.heap.size ≤ b) :
 ∃ G', SimN P N fr (outSt st wrs ks k y) a' w' G' := by
 obtain ⟨g1, g2⟩ := hs.mem.called hblk haft
 obtain ⟨G', h1, h2, h3, h4⟩ := ub9w_ (n := st.n) g2 hsh hnd (fun b hb => by
  refine ⟨?_, fun j o ho hbj => ?_⟩
  · rcases hown b hb with h | h
    · obtain ⟨k', _, o, ho, hbo⟩ := hblk b h
      exact ubhu_ (hs.mem.objs k' o ho) hbo
    · exact .inl (Nat.le_trans hs.mem.after.size h)
  · have ho' : j ∉ ks ∧ st.sto j = some o := by
     rw [ubht_] at ho
     by_cases hj : j ∈ ks
     · rw [if_pos hj] at ho; cases ho
     · rw [if_neg hj] at ho; exact ⟨hj, ho⟩
    have hbj0 : blk G j o = some b := by rw [← uyy_ (hs.mem.objs j o ho'.2) g1]; exact hbj
    rcases hown b hb with h | h
    · obtain ⟨k', hk, o2, ho2, hbo⟩ := hblk b h
      have := hs.mem.sep j k' o o2 b ho'.2 ho2 hbj0 hbo
      subst this
      exact ho'.1 hk
    · have := ubz0_ (hs.mem.objs j o ho'.2) hbj0
      omega) (fun k' h1 _ => h1)
 have hsr : ∀ t, SR P w' G' ((outSt st wrs ks k y).slots t) (a'.tmps.getD t undef) := by
  intro t
  simp only [outSt]
  cases ht : hasN t k.tm with
  | true =>
    refine ub0j_ (fun j s t' hj ht' => ?_) t
    rw [List.getElem?_map] at hj
    cases hm : (mkL k.sh y st.n)[j]? with
    | none => rw [hm] at hj; cases hj
    | some m =>
      rw [hm] at hj
      cases hj
      exact h4 j m _ hm (by rw [List.getElem?_map, ht']; rfl)
  | false =>
    simp only [cond_false]
    cases hw : hasN t wrs with
    | true => exact SR.undef _
    | false =>
      simp only [cond_false]
      rw [hfr t hw]
      exact ((hs.sr (.tmp t)).mono g1).mono h1.le
 refine ⟨G', fun t => (hsr t).slotOK, hd, hN, fun t v hv => ?_, fun t tk g s h => ?_, ?_, fun h => Nat.le_trans (hs.drawn h) (hdr h)⟩
 · cases hw : hasN t wrs with
   | true => rw [hwr t hw] at hv; cases hv
   | false => rw [hfr t hw]; exact hs.fix t v hv
 · have := hsr t
   rw [h] at this
   exact this.not_grd
 · simp only [outSt]
   rw [ubg_]
   refine h1.mem.shrink fun j hj => ⟨?_, fun hh => ?_⟩
   · show st.n ≤ j
     have : st.n + cntL k.sh ≤ j := hj
     omega
   · have : st.n + cntL k.sh ≤ j := hj
     omega
theorem ub6b_ {Ω : Type} {N : Nat} {K : Ex → St → Option Ω} {ω : Ω} {st : St} {a a' : Act} {e : Exit} {wrs ks bs : List Nat} {I' : Im} (hs : SimN P N fr st a w G) (hblk : BlksOf st.sto G ks bs)
 (hwr : ∀ d, hasN d wrs = true → fr.fx d = none) (hd : a'.defers = []) (hN : a'.tmps.size = N) (hfr : ∀ t, hasN t wrs = false → a'.tmps.getD t undef = a.tmps.getD t undef) (haft : After (· ∈ bs) w G.im w' I') (hdr : fr.dr = true → w.drawn ≤ w'.drawn) :
 ∀ {l : List (Ex × Kp)} {x : OutT l}, ub42_ st wrs ks l x K = some ω → OutS P w' I' a' e w.heap.size bs l x →
 ∃ e' st' G', e = exOf e' ∧ SimN P N fr st' a' w' G' ∧ K e' st' = some ω := by
 intro l
 induction l with
 | nil => intro x; exact Empty.elim x
 | cons o r ih =>
   intro x h hq
   cases r with
   | nil =>
     obtain ⟨h1, bs', h2, h3, h4⟩ := hq
     obtain ⟨G', h5⟩ := ub84_ hs hblk hwr hd hN hfr haft hdr h2 h3 h4
     exact ⟨o.1, _, G', h1, h5, h⟩
   | cons p r =>
     cases x with
     | inl y =>
       obtain ⟨h1, bs', h2, h3, h4⟩ := hq
       obtain ⟨G', h5⟩ := ub84_ hs hblk hwr hd hN hfr haft hdr h2 h3 h4
       exact ⟨o.1, _, G', h1, h5, h⟩
     | inr y => exact ih (x := y) h hq
theorem ub3j_ {N : Nat} {fs : Nat → Option FSpec} (hE : ∀ f sp, fs f = some sp → uo_ P f ∧ FunOK P f sp) {k : Kp} {st : St} {v : TupR k.sh} {a : Act} (hs : SimN P N fr st a w G) (h : ubwd_ fs k st = some v) :
 ∃ bs, ShL P w G.im k.sh v (k.tm.map fun t => a.tmps.getD t undef) bs ∧ bs.Nodup ∧ BlksOf st.sto G (keysL st.sto k.sh (k.tm.map st.slots)) bs :=
 ubtn_ hs.mem hE (vs := k.tm.map fun t => a.tmps.getD t undef) h (by simp) (fun j s v hj hv => by
  rw [List.getElem?_map] at hj hv
  cases ht : k.tm[j]? with
  | none => rw [ht] at hj; cases hj
  | some t =>
    rw [ht] at hj hv
    cases hj; cases hv
    exact hs.sr (.tmp t))
theorem ub6c_ {Ω : Type} {E : Env} (hE : EnvOK P fr.dr E) {N : Nat} {s : CSpec} {c : Code} (hwr : ∀ d, hasN d s.wrs = true → fr.fx d = none) (hc : CutOK P fr.dr N s c) {st : St} {K : Ex → St → Option Ω} {ω : Ω} {a : Act} {Q : Exit → Act → World → Prop}
 (h : evCut E s st K = some ω) (hs : SimN P N fr st a w G) (hQ : ∀ e st' a' w' G', SimN P N fr st' a' w' G' → K e st' = some ω → Q (exOf e) a' w') : c.wp P Q a w := by
 unfold evCut at h
 split at h
 · rename_i v hv0
   obtain ⟨hal, hv⟩ : alOK s.al st.slots = true ∧ ubwd_ E.fs s.inn (frzSt s.inn st) = some v := by
    cases hb : alOK s.al st.slots with
    | false => rw [hb] at hv0; cases hv0
    | true => rw [hb] at hv0; exact ⟨rfl, hv0⟩
   have hal := ub83_ hs hal
   obtain ⟨x, h1, h2⟩ := Option.bind_eq_some_iff.1 h
   obtain ⟨G, _, hs⟩ := hs.frz s.inn
   obtain ⟨bs, p1, p2, p3⟩ := ub3j_ hE.fs hs hv
   refine wp_mono (hc w G.im a v bs x hs.mem.after.mem hs.defs hs.size hal p1 p2 h1) fun e a' w' hq => ?_
   obtain ⟨q1, q2, q3, qd, I', q4, q5⟩ := hq
   obtain ⟨e', st', G', rfl, h3, h4⟩ := ub6b_ hs p3 hwr q1 q2 q3 q4 qd h2 q5
   exact hQ e' st' a' w' G' h3 h4
 · cases h
theorem ub74_ {Ω : Type} {E : Env} (hE : EnvOK P fr.dr E) (hmix : P.follows .mixedOrders = true) {N : Nat} {ok : Nat → Bool} (hok : ∀ d, ok d = true → d < N ∧ fr.fx d = none) :
 ∀ (c : Code) (n : Nat) (st : St) (a : Act) (w : World) (G : Gh) (K : Ex → St → Option Ω) (ω : Ω) (Q : Exit → Act → World → Prop),
 dstOK ok c = true → ubuf_ P fr.dr N ok E c n → evC E c n st K = some ω → SimN P N fr st a w G → (∀ e st' a' w' G', SimN P N fr st' a' w' G' → K e st' = some ω → Q (exOf e) a' w') → c.wp P Q a w := by
 have hall : ∀ {l : List Nat}, l.all ok = true → ∀ d, hasN d l = true → fr.fx d = none := by
  intro l h d hd
  rw [List.all_eq_true] at h
  exact (hok d (h d (ubub_.1 hd))).2
 intro c
 induction c with
 | skip => intro n st a w G K ω Q _ _ h hs hQ; exact wp_skip (hQ .normal st a w G hs h)
 | region id ops draw =>
   intro n st a w G K ω Q hd _ h hs hQ
   refine ub72_ hE hmix (fun j o d hj ho => ?_) h hs fun st' a' w' G' hs' hK => hQ .normal st' a' w' G' hs' hK
   simp only [dstOK, List.all_eq_true] at hd
   have := hd o (List.mem_of_getElem? (by simpa using hj))
   rw [ho] at this
   exact hok d this
 | seq x y ihx ihy =>
   intro n st a w G K ω Q hd hc h hs hQ
   simp only [dstOK, Bool.and_eq_true] at hd
   refine wp_seq (ihx n st a w G _ ω _ hd.1 hc.1 h hs fun e st' a' w' G' hs' hK => ub3h_ ?_)
   cases e with
   | normal => exact ihy _ st' a' w' G' K ω Q hd.2 hc.2 hK hs' hQ
   | exit i => exact hQ (.exit i) st' a' w' G' hs' hK
   | ret => exact hQ .ret st' a' w' G' hs' hK
 | cond c x y ihx ihy =>
   intro n st a w G K ω Q hd hc h hs hQ
   simp only [dstOK, Bool.and_eq_true] at hd
   simp only [evC] at h
   simp only [ubuf_] at hc
   split at h
   · rename_i s hcut
     rw [hcut] at hc
     exact ub6c_ hE (hall hc.1) hc.2 h hs hQ
   · rename_i hcut
     rw [hcut] at hc
     split at h
     · rename_i t ht
       have hv := hs.sr c
       rw [ht] at hv
       have hv := hv.bool
       cases t with
       | true => exact wp_cond_true hv (ihx _ st a w G K ω Q hd.1 hc.1 h hs hQ)
       | false => exact wp_cond_false hv (ihy _ st a w G K ω Q hd.2 hc.2 h hs hQ)
     · cases h
 | block id b ih =>
   intro n st a w G K ω Q hd hc h hs hQ
   refine wp_block (ih n st a w G _ ω _ hd hc h hs fun e st' a' w' G' hs' hK => ?_)
   cases e with
   | normal => exact hQ .normal st' a' w' G' hs' hK
   | ret => exact hQ .ret st' a' w' G' hs' hK
   | exit i =>
     simp only [exOf, Exit.inBlock]
     simp only at hK
     by_cases e : i = id
     · subst e
       rw [if_pos rfl]
       rw [Nat.beq_refl] at hK
       exact hQ .normal st' a' w' G' hs' hK
     · rw [if_neg e]
       rw [show Nat.beq i id = false by rw [← Bool.not_eq_true]; exact fun hh => e (Nat.eq_of_beq_eq_true hh)] at hK
       exact hQ (.exit i) st' a' w' G' hs' hK
 | loop b ih =>
   intro n st a w G K ω Q hd hc h hs hQ
   simp only [evC] at h
   simp only [ubuf_] at hc
   split at h
   · rename_i s hcut
     rw [hcut] at hc
     exact ub6c_ hE (hall hc.1) hc.2 h hs hQ
   · cases h
 | exit i => intro n st a w G K ω Q _ _ h hs hQ; exact wp_exit (hQ (.exit i) st a w G hs h)
 | ret => intro n st a w G K ω Q _ _ h hs hQ; exact wp_ret (hQ .ret st a w G hs h)
 | _ => intro n st a w G K ω Q _ _ h; cases h
theorem ub75_ {E : Env} (hE : EnvOK P fr.dr E) {N : Nat} {e : Ex} {st : St} {a : Act} (hs : SimN P N fr st a w G) {bs : List Nat} (hgv : ∀ b, fr.gv b → b ∈ bs) : ∀ {l : List (Ex × Kp)} {x : OutT l}, outPut E.fs l e st = some x →
 ∃ I, After fr.gv fr.w0 fr.i0 w I ∧ OutS P w I a (exOf e) fr.w0.heap.size bs l x := by
 have hsame : ∀ {e e' : Ex}, outPut.sameEx e e' = true → e' = e := by
  intro e e' h
  cases e <;> cases e' <;> first | rfl | cases h | skip
  have h : Nat.beq _ _ = true := h
  rw [Nat.eq_of_beq_eq_true h]
 have one : ∀ {o : Ex × Kp} {y : TupR o.2.sh}, outPut.sameEx o.1 e = true → ubwd_ E.fs o.2 (frzSt o.2 st) = some y →
  ∃ I, After fr.gv fr.w0 fr.i0 w I ∧ exOf e = exOf o.1 ∧ ∃ bs', ShL P w I o.2.sh y (o.2.tm.map fun t => a.tmps.getD t undef) bs' ∧ bs'.Nodup ∧ ∀ b ∈ bs', b ∈ bs ∨ fr.w0.heap.size ≤ b := by
  intro o y h1 h2
  obtain ⟨G0, _, hs⟩ := hs.frz o.2
  obtain ⟨bs', k1, k2, k3⟩ := ub3j_ hE.fs hs h2
  refine ⟨G0.im, hs.mem.after, by rw [hsame h1], bs', k1, k2, fun b hb => ?_⟩
  obtain ⟨k, _, ob, ho, hbo⟩ := k3 b hb
  rcases ubhu_ (hs.mem.objs k ob ho) hbo with h | h
  · exact .inr h
  · exact .inl (hgv b h)
 intro l
 induction l with
 | nil => intro x h; cases h
 | cons o r ih =>
   intro x h
   cases r with
   | nil =>
     simp only [outPut] at h
     cases hb : outPut.sameEx o.1 e with
     | false => rw [hb] at h; cases h
     | true => rw [hb] at h; exact one hb h
   | cons p r =>
     simp only [outPut] at h
     cases hb : outPut.sameEx o.1 e with
     | false =>
       rw [hb] at h
       simp only [cond_false] at h
       cases hr : outPut E.fs (p :: r) e st with
       | none => rw [hr] at h; cases h
       | some y =>
         rw [hr] at h
         cases h
         exact ih hr
     | true =>
       rw [hb] at h
       simp only [cond_true] at h
       cases hr : ubwd_ E.fs o.2 (frzSt o.2 st) with
       | none => rw [hr] at h; cases h
       | some y =>
         rw [hr] at h
         cases h
         exact one hb hr
def okCut (N : Nat) (wrs : List Nat) (d : Nat) : Bool := Nat.blt d N && hasN d wrs
def cutFr (dr : Bool) (wrs bs : List Nat) (a : Act) (w : World) (I : Im) : Fr := ⟨(· ∈ bs), w, I, fun t => if hasN t wrs then none else some (a.tmps.getD t undef), dr⟩
theorem ub16_ {N : Nat} {wrs bs : List Nat} {a : Act} : ∀ d, okCut N wrs d = true → d < N ∧ (cutFr dr wrs bs a w I).fx d = none := by
 intro d h
 simp only [okCut, Bool.and_eq_true, Nat.blt_eq] at h
 exact ⟨h.1, by simp [cutFr, h.2]⟩
theorem ub3k_ {N : Nat} {inn : Kp} {v : TupR inn.sh} {wrs bs : List Nat} {a : Act} (hm : Mem w I) (hd : a.defers = []) (hN : a.tmps.size = N) (hsh : ShL P w I inn.sh v (inn.tm.map fun t => a.tmps.getD t undef) bs) (hnd : bs.Nodup) :
 ∃ G, SimN P N (cutFr dr wrs bs a w I) (mkSt inn v) a w G :=
 ub6a_ hd hN (fun t v h => by
  have h : (if hasN t wrs = true then none else some (a.tmps.getD t undef)) = some v := h
  split at h
  · cases h
  · exact Option.some.inj h) (After.refl hm) (fun _ => Nat.le_refl _) hsh hnd fun b hb => .inr hb
theorem ub3l_ {E : Env} (hE : EnvOK P dr E) {N : Nat} {s : CSpec} {x : OutT s.outs} {bs : List Nat} {a0 a : Act} {w0 : World} {e : Ex} {st : St} (hs : SimN P N (cutFr dr s.wrs bs a0 w0 I) st a w G) (h : outPut E.fs s.outs e st = some x) :
 ub59_ P dr N s x a0 w0 I bs (exOf e) a w :=
 ⟨hs.defs, hs.size, fun t ht => hs.fix t _ (by simp [cutFr, ht]), hs.drawn, ub75_ hE hs (fun _ h => h) h⟩
theorem ub98_ {E : Env} (hE : EnvOK P dr E) (hmix : P.follows .mixedOrders = true) {N n : Nat} {c : Operand} {x y : Code} {s : CSpec}
 (hd : dstOK (okCut N s.wrs) (.cond c x y) = true) (hx : AllCuts P dr N (okCut N s.wrs) (u7j_ E x (n + 1))) (hy : AllCuts P dr N (okCut N s.wrs) (u7j_ E y (n + 1 + nodes x)))
 (hF : ∀ v r, s.F v = some r → ub69_ E c x y n s.al s.inn s.outs v = some r) : CutOK P dr N s (.cond c x y) := by
 intro w I a v bs r hm hda hN hal hsh hnd h
 have h := hF v r h
 obtain ⟨G, hs⟩ := ub3k_ (wrs := s.wrs) hm hda hN hsh hnd
 have hs := ub15_ hs hal
 simp only [dstOK, Bool.and_eq_true] at hd
 unfold ub69_ at h
 split at h
 · rename_i t ht
   have hv := hs.sr c
   rw [ht] at hv
   have hv := hv.bool
   cases t with
   | true => exact wp_cond_true hv (ub74_ hE hmix ub16_ _ _ _ a w G _ r _ hd.1 (ub3i_ hx) h hs fun e st' a' w' G' hs' hK => ub3l_ hE hs' hK)
   | false => exact wp_cond_false hv (ub74_ hE hmix ub16_ _ _ _ a w G _ r _ hd.2 (ub3i_ hy) h hs fun e st' a' w' G' hs' hK => ub3l_ hE hs' hK)
 · cases h
theorem ub99_ {E : Env} (hE : EnvOK P dr E) (hmix : P.follows .mixedOrders = true) {N n : Nat} {body : Code} {al : List (Nat × Nat)} {inn : Kp} {outs : List (Ex × Kp)} {wrs : List Nat} {F : Nat → TupR inn.sh → Option (OutT outs)}
 (hd : dstOK (okCut N wrs) body = true) (hc : AllCuts P dr N (okCut N wrs) (u7j_ E body n)) (h0 : ∀ v, F 0 v = none) (hF : ∀ k v r, F (k + 1) v = some r → ub49_ E body n al inn outs (F k) v = some r) (m : Nat) :
 CutOK P dr N ⟨inn, outs, wrs, F m, al⟩ (.loop body) := by
 intro w0 I a0 v0 bs r hm hda hN hal hsh hnd h
 obtain ⟨G0, hs0⟩ := ub3k_ (wrs := wrs) hm hda hN hsh hnd
 have hs0 := ub15_ hs0 hal
 refine wp_loop_rounds m ?_
 have key : ∀ k v a w G, F k v = some r → SimN P N (cutFr dr wrs bs a0 w0 I) (mkStA al inn v) a w G → Code.rounds P body (ub59_ P dr N ⟨inn, outs, wrs, F m, al⟩ r a0 w0 I bs) k a w := by
  intro k
  induction k with
  | zero => intro v a w G h; rw [h0] at h; cases h
  | succ k ih =>
    intro v a w G h hs
    rw [rounds_succ]
    refine ub74_ hE hmix ub16_ _ _ _ a w G _ r _ hd (ub3i_ hc) (hF k v r h) hs fun e st' a' w' G' hs' hK => ub3h_ ?_
    cases e with
    | normal =>
      simp only at hK
      split at hK
      · rename_i v' hv0
        obtain ⟨hal', hv'⟩ : alOK al st'.slots = true ∧ ubwd_ E.fs inn (frzSt inn st') = some v' := by
         cases hb : alOK al st'.slots with
         | false => rw [hb] at hv0; cases hv0
         | true => rw [hb] at hv0; exact ⟨rfl, hv0⟩
        obtain ⟨G'', hs''⟩ := ub97_ hE.fs hs' hv'
        exact ih v' a' w' G'' hK (ub15_ hs'' (ub83_ hs' hal'))
      · cases hK
    | exit i => exact ub3l_ (s := ⟨inn, outs, wrs, F m, al⟩) hE hs' hK
    | ret => exact ub3l_ (s := ⟨inn, outs, wrs, F m, al⟩) hE hs' hK
 exact key m v0 a0 w0 G0 h hs0
end
end Go.Ev
namespace Go.Ev
variable [Pins]
section
variable {P : Program} {fr : Fr} {free free' : Nat → Prop} {self : Nat} {σ σ' : Nat → Option Obj} {w w' : World} {G G' : Gh} {I : Im}
def boxIx : List Sh → Nat → List Nat
 | [], _ => []
 | .box _ :: ps, i => i :: boxIx ps (i + 1)
 | .io _ _ :: ps, i => i :: boxIx ps (i + 1)
 | .bld _ false :: ps, i => i :: boxIx ps (i + 1)
 | _ :: ps, i => boxIx ps (i + 1)
theorem ShL.length : ∀ {l : List Sh} {x : TupR l} {vs : List Value} {bs : List Nat}, ShL P w I l x vs bs → vs.length = l.length := by
 intro l
 induction l with
 | nil => intro x vs bs h; rw [h.1]; rfl
 | cons a l ih =>
   intro x vs bs h
   cases l with
   | nil => obtain ⟨v, rfl, _⟩ := h; rfl
   | cons b l =>
     obtain ⟨v, vs', b1, b2, rfl, _, _, h4⟩ := h
     simp [ih h4]
theorem SimN.slot {N : Nat} {st : St} {a : Act} (hs : SimN P N fr st a w G) (t : Nat) : SR P w G (st.slots t) (a.tmps.getD t undef) := hs.sr (.tmp t)
theorem ub6d_ {id : Nat} {v z : Value} (h : (Instr.loadAt id v).run P w = .ok z w) : (asAddr v >>= loadVar id).run P w = .ok z w := by
 cases v with
 | pointer a =>
   cases a with
   | none => simp [Instr.loadAt, Instr.sureAddr, stuck] at h
   | some a => exact h
 | _ => simp [Instr.loadAt, Instr.sureAddr, stuck] at h
def ub0k_ (tmps : Array Value) : ResultVar → Sem Value
 | .tmp t => pure (tmps.getD t undef)
 | .cell a t => do loadVar t (← asAddr (tmps.getD a undef))
theorem ucbg_ {E : Env} (hE : EnvOK P fr.dr E) {N : Nat} {st : St} {a : Act} (hs : SimN P N fr st a w G) : ∀ {l : List ResultVar} {ss : List SV}, resL E.ty E.wr st l = some ss →
 ∃ vs : List Value, (l.mapM (ub0k_ a.tmps)).run P w = .ok vs w ∧
  vs.length = l.length ∧ ss.length = l.length ∧ ∀ (j : Nat) (s : SV) (v : Value), ss[j]? = some s → vs[j]? = some v → SR P w G s v := by
 intro l
 induction l with
 | nil =>
   intro ss h
   cases h
   exact ⟨[], rfl, rfl, rfl, fun j s v h => by simp at h⟩
 | cons r l ih =>
   intro ss h
   cases r with
   | tmp t =>
     simp only [resL] at h
     split at h
     · rename_i ss' hss
       cases h
       obtain ⟨vs, h1, h2, h3, h4⟩ := ih hss
       refine ⟨a.tmps.getD t undef :: vs, ?_, by simp [h2], by simp [h3], fun j s v hj hv => ?_⟩
       · rw [List.mapM_cons]
         simp only [ub0k_, Sem.run_bind, Sem.run_pure, Result.andThen_ok, h1]
       · cases j with
         | zero => cases hj; cases hv; exact hs.slot t
         | succ j => exact h4 j s v (by simpa using hj) (by simpa using hv)
     · cases h
   | cell ad t =>
     simp only [resL] at h
     split at h
     · rename_i u hu
       split at h
       · rename_i s0 hl
         split at h
         · rename_i ss' hss
           cases h
           obtain ⟨vs, h1, h2, h3, h4⟩ := ih hss
           obtain ⟨z, k1, k2⟩ : ∃ z, (Instr.loadAt t (a.tmps.getD ad undef)).run P w = .ok z w ∧ SR P w G s0 z := by
            cases hw : E.wr ad with
            | true => rw [hw] at hl; exact ub5m_ (hE.ty _ _ hu) hs.mem.objs hl (hs.slot ad)
            | false => rw [hw] at hl; exact ub22_ (hE.ty _ _ hu) hs.mem.objs hl (hs.slot ad)
           have k1 := ub6d_ k1
           refine ⟨z :: vs, ?_, by simp [h2], by simp [h3], fun j s v hj hv => ?_⟩
           · rw [List.mapM_cons]
             have k1 : (ub0k_ a.tmps (.cell ad t)).run P w = .ok z w := k1
             simp only [Sem.run_bind, Sem.run_pure, k1, Result.andThen_ok, h1]
           · cases j with
             | zero => cases hj; cases hv; exact k2
             | succ j => exact h4 j s v (by simpa using hj) (by simpa using hv)
         · cases h
       · cases h
     · cases h
theorem ub6e_ {E : Env} (hE : EnvOK P fr.dr E) {N : Nat} {st : St} {a : Act} (hs : SimN P N fr st a w G) {fn : Func} {ss : List SV} (h : resL E.ty E.wr st fn.results.toList = some ss) :
 ∃ (vs : List Value) (rv : Value), (results fn a.tmps).run P w = .ok rv w ∧ retIs vs rv ∧ vs.length = fn.results.toList.length ∧ ss.length = fn.results.toList.length ∧
  ∀ (j : Nat) (s : SV) (v : Value), ss[j]? = some s → vs[j]? = some v → SR P w G s v := by
 obtain ⟨vs, h1, h2, h3, h4⟩ := ucbg_ hE hs h
 have hrun : (results fn a.tmps).run P w = .ok (if h : vs.toArray.size = 1 then vs.toArray[0] else .tuple vs.toArray) w := by
  have h1' : (fn.results.mapM (ub0k_ a.tmps)).run P w = .ok vs.toArray w := by
   rw [Array.mapM_eq_mapM_toList]
   simp only [Sem.run_map, h1, Result.andThen_ok]
  unfold results
  have e : (fn.results.mapM fun | .tmp t => (pure (a.tmps.getD t undef) : Sem Value) | .cell ad t => do loadVar t (← asAddr (a.tmps.getD ad undef))) = fn.results.mapM (ub0k_ a.tmps) := by
   congr 1
  simp only [Sem.run_bind]
  erw [e, h1']
  rfl
 refine ⟨vs, _, hrun, ?_, h2, h3, h4⟩
 rcases vs with _ | ⟨v, _ | ⟨v', vs⟩⟩
 · rfl
 · rfl
 · simp [retIs]
theorem ucaa_ {slots : Nat → SV} {tmps : Array Value} (hs : ∀ t, SR P w G (slots t) (tmps.getD t undef)) : ∀ {ps : List Sh} {i : Nat} {vals : List Value}, vals.length = ps.length →
 (∀ j v, vals[j]? = some v → hasN (i + j) (boxIx ps i) = true → tmps.getD (i + j) undef = v) →
 (uzn_ ps ((List.range' i ps.length).map slots)).length = (uob_ ps vals).length ∧
 ∀ (j : Nat) (s : SV) (v : Value), (uzn_ ps ((List.range' i ps.length).map slots))[j]? = some s → (uob_ ps vals)[j]? = some v → SR P w G s v := by
 intro ps
 have hlt : ∀ (ps : List Sh) (i j : Nat), hasN j (boxIx ps i) = true → i ≤ j := by
  intro ps
  induction ps with
  | nil => intro i j h; cases h
  | cons p ps ih =>
    intro i j h
    have key : hasN j (boxIx ps (i + 1)) = true → i ≤ j := fun h => by have := ih _ _ h; omega
    have here : hasN j (i :: boxIx ps (i + 1)) = true → i ≤ j := fun h => by
     simp only [hasN, Bool.or_eq_true] at h
     rcases h with h | h
     · have := Nat.eq_of_beq_eq_true h; omega
     · exact key h
    cases p with
    | box c => exact here h
    | io el t => exact here h
    | bld el c => cases c with
      | true => exact key h
      | false => exact here h
    | _ => exact key h
 induction ps with
 | nil => intro i vals hl h; exact ⟨rfl, fun j s v h => by simp [uzn_] at h⟩
 | cons p ps ih =>
   intro i vals hl h
   cases vals with
   | nil => cases hl
   | cons v0 vals =>
     have hl' : vals.length = ps.length := by simpa using hl
     simp only [List.length_cons, List.range'_succ, List.map_cons]
     cases hb : isBox p with
     | true =>
       have e1 : uzn_ (p :: ps) (slots i :: (List.range' (i + 1) ps.length).map slots) = slots i :: uzn_ ps ((List.range' (i + 1) ps.length).map slots) := by
        cases p <;> first | rfl | (cases hb; done) | (rename_i c0; cases c0 <;> first | rfl | (cases hb; done))
       have e2 : uob_ (p :: ps) (v0 :: vals) = v0 :: uob_ ps vals := by
        cases p <;> first | rfl | (cases hb; done) | (rename_i c0; cases c0 <;> first | rfl | (cases hb; done))
       have e3 : boxIx (p :: ps) i = i :: boxIx ps (i + 1) := by
        cases p <;> first | rfl | (cases hb; done) | (rename_i c0; cases c0 <;> first | rfl | (cases hb; done))
       rw [e1, e2]
       rw [e3] at h
       obtain ⟨h1, h2⟩ := ih (i := i + 1) hl' (fun j v hj hh => by
        have := h (j + 1) v (by simpa using hj) (by
         simp only [hasN, Bool.or_eq_true]
         right
         rw [show i + (j + 1) = i + 1 + j by omega]; exact hh)
        rw [show i + 1 + j = i + (j + 1) by omega]; exact this)
       refine ⟨by simp [h1], fun j s v hj hv => ?_⟩
       cases j with
       | zero =>
         cases hj; cases hv
         have := h 0 v0 rfl (by simp [hasN, Nat.beq_refl])
         rw [← this]
         exact hs i
       | succ j => exact h2 j s v (by simpa using hj) (by simpa using hv)
     | false =>
       have e1 : uzn_ (p :: ps) (slots i :: (List.range' (i + 1) ps.length).map slots) = uzn_ ps ((List.range' (i + 1) ps.length).map slots) := by
        cases p <;> first | rfl | (cases hb; done) | (rename_i c0; cases c0 <;> first | rfl | (cases hb; done))
       have e2 : uob_ (p :: ps) (v0 :: vals) = uob_ ps vals := by
        cases p <;> first | rfl | (cases hb; done) | (rename_i c0; cases c0 <;> first | rfl | (cases hb; done))
       have e3 : boxIx (p :: ps) i = boxIx ps (i + 1) := by
        cases p <;> first | rfl | (cases hb; done) | (rename_i c0; cases c0 <;> first | rfl | (cases hb; done))
       rw [e1, e2]
       exact ih (i := i + 1) hl' (fun j v hj hh => by
        have := h (j + 1) v (by simpa using hj) (by rw [e3, show i + (j + 1) = i + 1 + j by omega]; exact hh)
        rw [show i + 1 + j = i + (j + 1) by omega]; exact this)
theorem SimN.frzE {wr : Nat → Bool} {N : Nat} {st : St} {a : Act} (hs : SimN P N fr st a w G) (l : List ResultVar) : ∃ G', GLe w G w G' ∧ SimN P N fr (ub1j_ wr st l) a w G' := by
 obtain ⟨G', h1, h2⟩ := ub91_ (fz := ubtx_ st.sto (ub7a_ wr st l)) hs.mem ubyp_
 exact ⟨G', h1, fun t => (hs.slots t).mono h1 fun _ _ _ _ => Iff.rfl, hs.defs, hs.size, hs.fix, hs.nogrd, h2, hs.drawn⟩
def okFun (N : Nat) (ps : List Sh) (d : Nat) : Bool := Nat.blt d N && !(hasN d (boxIx ps 0))
theorem ucce_ {dr : Bool} {E : Env} (hE : EnvOK P dr E) (hmix : P.follows .mixedOrders = true) {f : FuncId} {fn : Func} {c : Code} {ps rs : List Sh} {F : TupR ps → Option (TupR (rs ++ ps.filter isBox))}
 (hf : P.funcs[f]? = some fn) (hb : fn.body = some c) (hd : dstOK (okFun fn.ntmps ps) c = true) (hn : Nat.ble ps.length fn.ntmps = true) (hl : Nat.beq fn.results.toList.length rs.length = true)
 (hc : AllCuts P dr fn.ntmps (okFun fn.ntmps ps) (u7j_ E c 0)) (hF : ∀ v r, F v = some r → evFun E fn ps rs v = some r) : FunOK P f ⟨ps, rs, F, dr⟩ := by
 intro w I v args bs hm hsh hnd r hr
 have hr := hF v r hr
 have hn := Nat.le_of_ble_eq_true hn
 have hl := Nat.eq_of_beq_eq_true hl
 have hlen : args.length = ps.length := hsh.length
 let fr : Fr := ⟨(· ∈ bs), w, I, fun t => if hasN t (boxIx ps 0) then some (args.getD t undef) else none, dr⟩
 let tm : Array Value := args.toArray ++ Array.replicate (fn.ntmps - args.toArray.size) undef
 let a0 : Act := ⟨tm, []⟩
 have hlow : ∀ t, t < args.length → tm.getD t undef = args.getD t undef := by
  intro t ht
  simp [tm, Array.getD_eq_getD_getElem?, Array.getElem?_append_left, ht]
 have hbx : ∀ (ps : List Sh) (i j : Nat), hasN j (boxIx ps i) = true → j < i + ps.length := by
  intro ps
  induction ps with
  | nil => intro i j h; cases h
  | cons p ps ih =>
    intro i j h
    have key : hasN j (boxIx ps (i + 1)) = true → j < i + (ps.length + 1) := fun h => by have := ih _ _ h; omega
    have here : hasN j (i :: boxIx ps (i + 1)) = true → j < i + (ps.length + 1) := fun h => by
     simp only [hasN, Bool.or_eq_true] at h
     rcases h with h | h
     · have := Nat.eq_of_beq_eq_true h; omega
     · exact key h
    cases p with
    | box c => exact here h
    | io el t => exact here h
    | bld el c => cases c with
      | true => exact key h
      | false => exact here h
    | _ => exact key h
 have hargs : (List.range ps.length).map (fun t => tm.getD t undef) = args := by
  apply List.ext_getElem?
  intro j
  rw [List.getElem?_map]
  by_cases h : j < ps.length
  · rw [List.getElem?_range h]
    simp only [Option.map_some]
    rw [hlow j (by omega), List.getD_eq_getElem?_getD, List.getElem?_eq_getElem (by omega)]
    rfl
  · rw [List.getElem?_eq_none (by simpa using h), List.getElem?_eq_none (by omega)]; rfl
 have hfxok : ∀ d, okFun fn.ntmps ps d = true → d < fn.ntmps ∧ fr.fx d = none := fun d hd => by
  simp only [okFun, Bool.and_eq_true, Nat.blt_eq, Bool.not_eq_true'] at hd
  refine ⟨hd.1, ?_⟩
  show (if hasN d (boxIx ps 0) = true then some (args.getD d undef) else none) = none
  rw [hd.2]; rfl
 obtain ⟨G0, hs0⟩ := ub6a_ (P := P) (fr := fr) (N := fn.ntmps) (k := ⟨List.range ps.length, ps⟩) (v := v) (a := a0) (I := I) rfl (by simp [a0, tm]; omega) (fun t v' h => by
  have h : (if hasN t (boxIx ps 0) = true then some (args.getD t undef) else none) = some v' := h
  split at h
  · rename_i hh
    cases h
    exact hlow t (by have := hbx _ _ _ hh; omega)
  · cases h) (After.refl hm) (fun _ => Nat.le_refl _) (by rw [hargs]; exact hsh) hnd (fun b hb => .inr hb)
 refine calls_of_wp hf hb ?_
 unfold evFun at hr
 rw [hb] at hr
 have fin : ∀ (st' : St) (a' : Act) (w' : World) (G' : Gh), SimN P fn.ntmps fr st' a' w' G' →
  (match resL E.ty E.wr (ub1j_ E.wr st' fn.results.toList) fn.results.toList with
   | some l => ubzs_ E.fs (ub66_ (ub1j_ E.wr st' fn.results.toList).sto (rs ++ ps.filter isBox) (l ++ uzn_ ps ((List.range ps.length).map (ub1j_ E.wr st' fn.results.toList).slots))) (rs ++ ps.filter isBox) (l ++ uzn_ ps ((List.range ps.length).map (ub1j_ E.wr st' fn.results.toList).slots))
   | none => none) = some r →
  a'.defers = [] ∧ ∃ v, (results fn a'.tmps).run P w' = .ok v w' ∧ ∃ rv vs I' bs', Ending.returned v = .returned rv ∧ vs.length = rs.length ∧ retIs vs rv ∧ After (· ∈ bs) w I w' I' ∧
   ShL P w' I' (rs ++ ps.filter isBox) r (vs ++ uob_ ps args) bs' ∧ bs'.Nodup ∧ (∀ b ∈ bs', b ∈ bs ∨ w.heap.size ≤ b) ∧ (fr.dr = true → w.drawn ≤ w'.drawn) := by
  intro st' a' w' G' hs' h
  refine ⟨hs'.defs, ?_⟩
  obtain ⟨G1, _, hs'⟩ := hs'.frzE fn.results.toList
  generalize ub1j_ E.wr st' fn.results.toList = st' at h hs'
  split at h
  · rename_i ss hss
    obtain ⟨vs, rv, h1, h2, h3, h4, h5⟩ := ub6e_ hE hs' hss
    obtain ⟨b1, b2⟩ := ucaa_ (slots := st'.slots) (tmps := a'.tmps) hs'.slot (ps := ps) (i := 0) (vals := args) hlen (fun j v hj hh => by
     rw [Nat.zero_add] at hh ⊢
     exact hs'.fix j v (by
      show (if hasN j (boxIx ps 0) = true then some (args.getD j undef) else none) = some v
      rw [if_pos hh, List.getD_eq_getElem?_getD, hj]; rfl))
    rw [← List.range_eq_range'] at b1 b2
    have hss2 : ss.length = vs.length := by rw [h4, h3]
    obtain ⟨G2, gle, hm2⟩ := ub3b_ hs'.mem (rs ++ ps.filter isBox) (ss ++ uzn_ ps ((List.range ps.length).map st'.slots))
    obtain ⟨bs', k1, k2, k3⟩ := ubtn_ hm2 hE.fs (vs := vs ++ uob_ ps args) h (by rw [List.length_append, List.length_append, b1, hss2]) (fun j s v hj hv => by
     by_cases hlt : j < ss.length
     · rw [List.getElem?_append_left hlt] at hj
       rw [List.getElem?_append_left (by omega)] at hv
       exact (h5 j s v hj hv).mono gle
     · have hge : ss.length ≤ j := Nat.le_of_not_lt hlt
       rw [List.getElem?_append_right hge] at hj
       rw [List.getElem?_append_right (by omega), ← hss2] at hv
       exact (b2 _ s v hj hv).mono gle)
    refine ⟨rv, h1, rv, vs, G2.im, bs', rfl, by rw [h3, hl], h2, hm2.after, k1, k2, fun b hb => ?_, hs'.drawn⟩
    obtain ⟨k, _, o, ho, hbo⟩ := k3 b hb
    rcases ubhu_ (hm2.objs k o ho) hbo with h | h
    · exact .inr h
    · exact .inl h
  · cases h
 refine ub74_ hE hmix hfxok c 0 _ a0 w G0 _ r _ hd (ub3i_ hc) hr hs0 fun e st' a' w' G' hs' hK => ?_
 cases e with
 | normal => exact fin st' a' w' G' hs' hK
 | ret => exact fin st' a' w' G' hs' hK
 | exit i => cases hK
end
end Go.Ev
namespace Go.Ev
variable [Pins]
def loopN {α β : Type} (r : (α → Option β) → α → Option β) : Nat → α → Option β
 | 0 => fun _ => none
 | k + 1 => r (loopN r k)
def sub : Code → List Nat → Code
 | c, [] => c
 | .seq a b, i :: r => bif Nat.beq i 0 then sub a r else sub b r
 | .cond _ a b, i :: r => bif Nat.beq i 0 then sub a r else sub b r
 | .block _ b, _ :: r => sub b r
 | .loop b, _ :: r => sub b r
 | _, _ => .skip
def up7_ : Code → Operand
 | .cond c _ _ => c
 | _ => .tmp 0
def u0_ (f : Func) : Code := match f.body with
 | some c => c
 | none => .skip
def tysOK (P : Program) (l : List (Nat × Ty)) : Bool := l.all fun p => (layB P p.2).1 p.1
def elsOK (P : Program) (l : List (Nat × Nat)) : Bool := l.all fun p => match P.underlying p.1 with
 | some (.slice x) => Nat.beq p.2 x
 | _ => false
def elOf (P : Program) (l : List (Nat × Nat)) (i : Nat) : Nat := match lookN l i with
 | some x => x
 | none => match P.underlying i with
   | some (.slice x) => x
   | _ => 0
theorem ubto_ {α : Type} : ∀ {l : List (Nat × α)} {i : Nat} {x : α}, lookN l i = some x → (i, x) ∈ l := by
 intro l
 induction l with
 | nil => intro i x h; cases h
 | cons p r ih =>
   intro i x h
   obtain ⟨j, y⟩ := p
   simp only [lookN] at h
   cases hb : Nat.beq i j with
   | true =>
     rw [hb] at h
     have := Nat.eq_of_beq_eq_true hb
     subst this
     cases h
     exact List.mem_cons_self
   | false => rw [hb] at h; exact List.mem_cons_of_mem _ (ih h)
section
variable {P : Program}
def FsOK (P : Program) : List (Nat × FSpec) → Prop
 | [] => True
 | p :: r => (uo_ P p.1 ∧ FunOK P p.1 p.2) ∧ FsOK P r
theorem FsOK.mem : ∀ {l : List (Nat × FSpec)}, FsOK P l → ∀ f sp, (f, sp) ∈ l → uo_ P f ∧ FunOK P f sp := by
 intro l
 induction l with
 | nil => intro _ f sp h; cases h
 | cons p r ih =>
   intro h f sp hm
   rcases List.mem_cons.1 hm with rfl | hm
   · exact h.1
   · exact ih h.2 f sp hm
def lookM : List (String × Nat × Nat) → String → Nat → Option Nat
 | [], _, _ => none
 | x :: r, m, id => bif x.1 == m && Nat.beq x.2.1 id then some x.2.2 else lookM r m id
def MsOK (P : Program) : List (String × Nat × Nat) → Prop
 | [] => True
 | x :: r => (∀ (v : Value) (w : World), (method (P.types.size + Made.depth) x.2.1 v x.1).run P w = .ok (x.2.2, v) w) ∧ MsOK P r
theorem MsOK.look : ∀ {l : List (String × Nat × Nat)}, MsOK P l → ∀ m id f, lookM l m id = some f → ∀ (v : Value) (w : World), (method (P.types.size + Made.depth) id v m).run P w = .ok (f, v) w := by
 intro l
 induction l with
 | nil => intro _ m id f h; cases h
 | cons x r ih =>
   intro h m id f hf
   unfold lookM at hf
   cases hb : (x.1 == m && Nat.beq x.2.1 id) with
   | false => rw [hb] at hf; exact ih h.2 m id f hf
   | true =>
     rw [hb] at hf
     simp only [Bool.and_eq_true, beq_iff_eq] at hb
     have e2 := Nat.eq_of_beq_eq_true hb.2
     cases hf
     rw [← hb.1, ← e2]
     exact h.1
def eqsOK (P : Program) (tys : List (Nat × Ty)) (eqs : List Nat) : Bool := eqs.all fun i => match lookN tys i with
 | some t => eqOK P t i
 | none => true
theorem ucab_ {dr : Bool} {tys : List (Nat × Ty)} {els : List (Nat × Nat)} {fs : List (Nat × FSpec)} {ms : List (String × Nat × Nat)} {eqs : List Nat} {cut : Nat → Option CSpec} {wr : Nat → Bool} (h1 : tysOK P tys = true) (h2 : elsOK P els = true) (h3 : FsOK P fs) (h4 : MsOK P ms) (h5 : eqsOK P tys eqs = true) (h6 : (!dr || fs.all fun p => p.2.dr) = true) :
 EnvOK P dr ⟨lookN tys, lookN fs, cut, wr, elOf P els, lookM ms, (fun t => hasN t eqs), dr⟩ := by
 refine ⟨fun h => h, fun hd f sp h => ?_, fun id t h => ?_, fun id x h => ?_, fun f sp h => h3.mem f sp (ubto_ h), h4.look, fun id t he ht => ?_⟩
 · subst hd
   simp only [Bool.not_true, Bool.false_or] at h6
   exact List.all_eq_true.1 h6 _ (ubto_ h)
 · unfold tysOK at h1
   rw [List.all_eq_true] at h1
   exact h1 _ (ubto_ h)
 · unfold elsOK at h2
   rw [List.all_eq_true] at h2
   show elOf P els id = x
   unfold elOf
   cases hl : lookN els id with
   | none => simp only [h]
   | some y =>
     have := h2 _ (ubto_ hl)
     simp only [h] at this
     exact Nat.eq_of_beq_eq_true this
 · unfold eqsOK at h5
   rw [List.all_eq_true] at h5
   have h6 := h5 id (ubub_.1 he)
   have ht : lookN tys id = some t := ht
   rw [ht] at h6
   exact h6
theorem fn_ok {dr : Bool} {E : Env} (hE : EnvOK P dr E) (hmix : P.follows .mixedOrders = true) {f : FuncId} {fn : Func} {c : Code} {ps rs : List Sh} {F : TupR ps → Option (TupR (rs ++ ps.filter isBox))} {l : List (CSpec × Code)}
 (hf : P.funcs[f]? = some fn) (hnm : (fn.name == "runtime.NumGoroutine") = false) (hb : fn.body = some c) (hd : dstOK (okFun fn.ntmps ps) c = true) (hn : Nat.ble ps.length fn.ntmps = true) (hl : Nat.beq fn.results.toList.length rs.length = true)
 (hcs : u7j_ E c 0 = l) (hc : AllCuts P dr fn.ntmps (okFun fn.ntmps ps) l) (hF : ∀ v, evFun E fn ps rs v = F v) : uo_ P f ∧ FunOK P f ⟨ps, rs, F, dr⟩ := by
 subst hcs
 exact ⟨⟨fn, c, hf, hnm, hb⟩, ucce_ hE hmix hf hb hd hn hl hc fun v r h => (hF v).trans h⟩
theorem ucbh_ {dr : Bool} {E : Env} (hE : EnvOK P dr E) (hmix : P.follows .mixedOrders = true) {N n : Nat} {body : Code} {al : List (Nat × Nat)} {inn : Kp} {outs : List (Ex × Kp)} {wrs : List Nat} {r : (TupR inn.sh → Option (OutT outs)) → TupR inn.sh → Option (OutT outs)} {l : List (CSpec × Code)}
 (hd : dstOK (okCut N wrs) body = true) (hcs : u7j_ E body n = l) (hc : AllCuts P dr N (okCut N wrs) l) (hF : ∀ next v, ub49_ E body n al inn outs next v = r next v) (m : Nat) :
 CutOK P dr N ⟨inn, outs, wrs, loopN r m, al⟩ (.loop body) := by
 subst hcs
 exact ub99_ hE hmix hd hc (fun _ => rfl) (fun k v x h => (hF _ v).trans h) m
theorem ub76_ {dr : Bool} {E : Env} (hE : EnvOK P dr E) (hmix : P.follows .mixedOrders = true) {N n : Nat} {c : Operand} {x y : Code} {al : List (Nat × Nat)} {inn : Kp} {outs : List (Ex × Kp)} {wrs : List Nat} {F : TupR inn.sh → Option (OutT outs)} {lx ly : List (CSpec × Code)}
 (hd : dstOK (okCut N wrs) (.cond c x y) = true) (hcx : u7j_ E x (n + 1) = lx) (hcy : u7j_ E y (n + 1 + nodes x) = ly) (hx : AllCuts P dr N (okCut N wrs) lx) (hy : AllCuts P dr N (okCut N wrs) ly)
 (hF : ∀ v, ub69_ E c x y n al inn outs v = F v) : CutOK P dr N ⟨inn, outs, wrs, F, al⟩ (.cond c x y) := by
 subst hcx hcy
 exact ub98_ (s := ⟨inn, outs, wrs, F, al⟩) hE hmix hd hx hy fun v r h => (hF v).trans h
theorem ub3m_ {dr : Bool} {f : FuncId} {e : Ty} {rs : List Sh} {F1 : TupR [Sh.nilS] → Option (TupR (rs ++ [Sh.nilS].filter isBox))} {F2 : TupR [Sh.nns e] → Option (TupR (rs ++ [Sh.nns e].filter isBox))}
 {F : TupR [Sh.val (.slice e)] → Option (TupR (rs ++ [Sh.val (.slice e)].filter isBox))}
 (h1 : uo_ P f ∧ FunOK P f ⟨[.nilS], rs, F1, dr⟩) (h2 : uo_ P f ∧ FunOK P f ⟨[.nns e], rs, F2, dr⟩) (e1 : F1 () = F ([] : List e.T)) (e2 : ∀ x, F2 x = F x) : uo_ P f ∧ FunOK P f ⟨[.val (.slice e)], rs, F, dr⟩ := by
 refine ⟨h1.1, fun w I v args bs hm hsh hnd r hr => ?_⟩
 obtain ⟨v0, rfl, hv, rfl⟩ := hsh
 obtain ⟨c, hc, a, cap, hca, hlen, hnil, had⟩ := hv
 have hv0 : v0 = .slice a (show List e.T from v).length cap := List.singleton_inj.1 ((show c = [v0] from hc).symm.trans hca)
 cases a with
 | none =>
   obtain ⟨hx, rfl⟩ := hnil rfl
   have hx : v = ([] : List e.T) := hx
   subst hx
   exact h1.2 w I () [v0] [] hm ⟨v0, rfl, rfl, by rw [hv0]; rfl⟩ List.nodup_nil r (e1.trans hr)
 | some ad =>
   exact h2.2 w I v [v0] [] hm ⟨v0, rfl, rfl, ⟨some ad, cap, by rw [hv0], hlen, hnil, had⟩, ad, _, cap, by rw [hv0]⟩ List.nodup_nil r ((e2 v).trans hr)
end
end Go.Ev
