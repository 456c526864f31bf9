/-
  Maps: stores. Interfaces, min, max, function values, nil checks.
-/
import Derived.Test.YtncjpbogjfibfaaGreatDoorEvM10
set_option linter.unusedVariables false
set_option linter.unusedSimpArgs false
namespace Go.Ev
open Go.MapKept

section
variable {P : Program} {fr : Fr} {free free' : Nat → Prop} {self : Nat} {σ σ' : Nat → Option Obj} {w w' : World} {G G' : Gh} {I : Im}

theorem EntsOK.set {k v : Ty} {es : List (k.T × v.T)} {ents : List MapEntry} (h : EntsOK w I k v es ents) {j : Nat} {x : k.T} {y : v.T} {e : MapEntry} (hx : VRel w I k x e.key) (hy : VRel w I v y e.val) :
    EntsOK w I k v (es.set j (x, y)) (ents.set j e) := by
  refine ⟨by simpa using h.1, fun i q e' hq he => ?_⟩
  by_cases hij : j = i
  · subst hij
    by_cases hlt : j < es.length
    · rw [List.getElem?_set_self hlt] at hq
      rw [List.getElem?_set_self (by rw [h.1]; exact hlt)] at he
      cases hq; cases he
      exact ⟨hx, hy⟩
    · rw [List.getElem?_eq_none (by simp; omega)] at hq; cases hq
  · rw [List.getElem?_set_ne hij] at hq he
    exact h.2 i q e' hq he

theorem EntsOK.push {k v : Ty} {es : List (k.T × v.T)} {ents : List MapEntry} (h : EntsOK w I k v es ents) {x : k.T} {y : v.T} {e : MapEntry} (hx : VRel w I k x e.key) (hy : VRel w I v y e.val) :
    EntsOK w I k v (es ++ [(x, y)]) (ents ++ [e]) := by
  refine ⟨by simp [h.1], fun i q e' hq he => ?_⟩
  by_cases hlt : i < es.length
  · rw [List.getElem?_append_left hlt] at hq
    rw [List.getElem?_append_left (by rw [h.1]; exact hlt)] at he
    exact h.2 i q e' hq he
  · have hle : es.length ≤ i := Nat.le_of_not_lt hlt
    rw [List.getElem?_append_right hle] at hq
    rw [List.getElem?_append_right (by rw [h.1]; exact hle), h.1] at he
    have h0 : i - es.length = 0 := by
      have := lt_of_getElem? hq
      simp at this; omega
    rw [h0] at hq he
    cases hq; cases he
    exact ⟨hx, hy⟩

theorem EntsOK.ext {I' : Im} {k v : Ty} {es : List (k.T × v.T)} {ents : List MapEntry} (h : EntsOK w I k v es ents) (e : Ext w I w' I') : EntsOK w' I' k v es ents :=
  ⟨h.1, fun i q e' hq he => ⟨(h.2 i q e' hq he).1.ext e, (h.2 i q e' hq he).2.ext e⟩⟩

theorem opPut_ok {t : Ty} {id : Nat} (hl : Lay P t id) (hm : MemS P fr free σ w G) (hσ : ∀ k o, σ' k = some o → σ k = some o) {m s sx : SV} {vm vk vx : Value} {r : OpRes} {u : Upd}
    (hr : opPut σ' t m s sx = some r) (hu : Gives r u) (hsm : SR P w G m vm) (hs : SR P w G s vk) (hsx : SR P w G sx vx) :
    ∃ w', (Instr.mapUpdate id vm vk vx).run P w = .ok () w' ∧ Res P fr free self σ w G u undef w' := by
  have ho : ∀ k o, σ' k = some o → ObjOK P fr w G k o := fun k o h => hm.objs k o (hσ k o h)
  unfold opPut at hr
  split at hr
  · rename_i k v
    split at hr
    · rename_i j g
      split at hr
      · rename_i k' v' es hk
        cases hb : (Nat.beq g 0 && (k'.same k && v'.same v)) with
        | false => rw [hb] at hr; cases hr
        | true =>
          rw [hb] at hr
          simp only [cond_true] at hr
          simp only [Bool.and_eq_true] at hb
          have hg := Nat.eq_of_beq_eq_true hb.1
          have e1 := Ty.same_eq hb.2.1
          have e2 := Ty.same_eq hb.2.2
          subst hg e1 e2
          split at hr
          · rename_i eq a b heq ha hbx
            cases hr
            rw [hu.pure_inv]
            obtain ⟨ka, va, hun, hlk, hlv⟩ := hl.map
            obtain ⟨cv, q1, bl, ents, clock, rfl, q2, q3, q4, q5, q6, q7⟩ := ho _ _ hk
            obtain ⟨c, hc, v2, k3, _, k5⟩ := hsm
            have hv2 : v2 = vm := by
              have : [vm] = [v2] := (show c = [vm] from hc).symm.trans k5
              exact (List.singleton_inj.1 this).symm
            subst hv2
            rw [q1] at k3
            cases k3
            have hav : VRel w G.im k' a vk := as_ok ha hs
            have hbv : VRel w G.im v' b vx := asV_ok ho hbx hsx
            obtain ⟨d, hd, hkey⟩ := key_ok (P := P) (w := w) (I := G.im) hlk heq
            have hck := run_checkKey (P := P) (w := w) hd (hkey.key _ _ hav) false 9999
            have hents : EntsOK w G.im k' v' es ents.toList := ⟨by simpa using q3, fun i x e hx he => q4 i x e hx (by rw [← Array.getElem?_toList]; exact he)⟩
            have hset := fun o' => heap_set (o' := o') q2
            have hval0 : VRel w G.im v' b vx := hbv
            -- what is left to show for the new entries
            have fin : ∀ (ents' : Array MapEntry) (clock' : Nat), EntsOK w G.im k' v' (putKV eq a b es) ents'.toList →
                Res P fr free self σ w G ⟨.undef, [(j, some (.mp k' v' (putKV eq a b es) true))]⟩ undef { w with heap := w.heap.setIfInBounds bl (.map ents' clock') } := by
              intro ents' clock' he
              obtain ⟨s1, s2⟩ := hset (.map ents' clock')
              have hle : GLe w G { w with heap := w.heap.setIfInBounds bl (.map ents' clock') } G := GLe.of_heap (b := bl) (fun b' hne => s2 b' hne) q6 (q5.1 rfl)
              refine ⟨G, hle, hm.change (b := bl) hle ?_ (fun b' _ hne => s2 b' hne) (by simp) (by simpa using lt_of_heap q2) q7 (fun _ _ h => .inl h) (fun _ h => .inl h) rfl rfl rfl ?_ ?_, ⟨_, rfl, trivial⟩⟩
              · intro i o hi hoi hbi
                exact hi (hm.sep i j o _ bl hoi (hσ _ _ hk) hbi (by simp [blk, q1]))
              · intro o ho'
                cases ho'
                have hx := he.ext hle.ext
                exact ⟨⟨_, q1, bl, ents', clock', rfl, s1, by simpa using he.1, fun i x e h1 h2 => hx.2 i x e h1 (by rw [Array.getElem?_toList]; exact h2), q5, q6, q7⟩, .inl (by simp [blk, q1])⟩
              · intro i hi
                have hf := hm.fresh i hi.1
                refine ⟨fun e => ?_, hi.1, hf.2.1, hf.2.2.1, hf.2.2.2⟩
                subst e
                rw [hσ _ _ hk] at hf; cases hf.1
            rcases find_ok (P := P) hkey hav es ents.toList 0 hents with ⟨a1, a2, a3⟩ | ⟨i, e, y, a1, a2, a3, a4, a5, a6, a7⟩
            · have hf := run_findKey (P := P) (w := w) hd a1
              refine ⟨_, ?_, fin (ents.push { key := vk, val := vx, born := clock }) (clock + 1) ?_⟩
              · simp [Instr.mapUpdate, run_underlying hun, run_getObj_map q2, hck, hf, run_setObj_map _ q2]
              · rw [a3, Array.toList_push]
                exact hents.push hav hbv
            · have hf := run_findKey (P := P) (w := w) hd a1
              rw [Nat.zero_add] at hf
              have a2' : ents[i]? = some e := by rw [← Array.getElem?_toList]; exact a2
              refine ⟨_, ?_, fin (ents.modify i fun e => { e with key := vk, val := vx }) clock ?_⟩
              · simp [Instr.mapUpdate, run_underlying hun, run_getObj_map q2, hck, hf, a2', Instr.keyThatStays, a5, run_setObj_map _ q2]
              · rw [a7]
                have : (ents.modify i fun e => { e with key := vk, val := vx }).toList = ents.toList.set i { e with key := vk, val := vx } := by
                  apply List.ext_getElem?
                  intro n
                  rw [Array.getElem?_toList, Array.getElem?_modify]
                  by_cases hin : i = n
                  · subst hin
                    rw [if_pos rfl, a2', List.getElem?_set_self (by have := lt_of_getElem? a2; simpa using this)]
                    rfl
                  · rw [if_neg hin, List.getElem?_set_ne hin, Array.getElem?_toList]
                rw [this]
                exact hents.set hav hbv
          · cases hr
      · cases hr
    · cases hr
  · cases hr

end
end Go.Ev
