/-
  INTO A STATE: several values.
-/
import Derived.Test.YtncjpbogjfibfaaGreatDoorEvF2
set_option linter.unusedVariables false
set_option linter.unusedSimpArgs false
namespace Go.Ev

section
variable {P : Program} {fr : Fr} {free free' : Nat → Prop} {self : Nat} {σ σ' : Nat → Option Obj} {w w' : World} {G G' : Gh} {I : Im}

theorem mkV_ok {s : Sh} {x : s.T} {n : Nat} {v : Value} {bs : List Nat} (hm : MemS P fr free σ w G) (h : ShV P w G.im s x v bs) (hnd : bs.Nodup)
    (hbs : ∀ b ∈ bs, fr.owned b ∧ ∀ j o, σ j = some o → blk G j o ≠ some b) (hfree : ∀ k, n ≤ k → k < n + s.cnt → free k) :
    ∃ G', Made P fr free σ w G n (n + s.cnt) (mkC s x n).obs bs G' ∧ SR P w G' (mkC s x n).sv v := by
  cases s with
  | val t =>
    obtain ⟨h1, rfl⟩ := h
    exact ⟨G, Made.none hm, h1⟩
  | pr a b => exact absurd h id
  | own el t wr =>
    obtain ⟨G', h1, h2, _⟩ := mkC_ok (s := .own el t wr) hm h hnd hbs hfree
    exact ⟨G', h1, [v], rfl, h2⟩
  | io el t =>
    obtain ⟨G', h1, h2, _⟩ := mkC_ok (s := .io el t) hm h hnd hbs hfree
    exact ⟨G', h1, [v], rfl, h2⟩
  | omap a b =>
    obtain ⟨G', h1, h2, _⟩ := mkC_ok (s := .omap a b) hm h hnd hbs hfree
    exact ⟨G', h1, [v], rfl, h2⟩
  | box c =>
    obtain ⟨G', h1, h2, _⟩ := mkC_ok (s := .box c) hm h hnd hbs hfree
    exact ⟨G', h1, [v], rfl, h2⟩
  | hof d c =>
    obtain ⟨G', h1, h2, _⟩ := mkC_ok (s := .hof d c) hm h hnd hbs hfree
    exact ⟨G', h1, [v], rfl, h2⟩
  | fn f =>
    obtain ⟨G', h1, h2, _⟩ := mkC_ok (s := .fn f) hm h hnd hbs hfree
    exact ⟨G', h1, [v], rfl, h2⟩
  | nilS =>
    obtain ⟨G', h1, h2, _⟩ := mkC_ok (s := .nilS) hm h hnd hbs hfree
    exact ⟨G', h1, [v], rfl, h2⟩
  | nns e =>
    obtain ⟨G', h1, h2, _⟩ := mkC_ok (s := .nns e) hm h hnd hbs hfree
    exact ⟨G', h1, [v], rfl, h2⟩

theorem mkL_ok : ∀ {l : List Sh} {x : TupR l} {n : Nat} {free : Nat → Prop} {vs : List Value} {bs : List Nat}, MemS P fr free σ w G → ShL P w G.im l x vs bs → bs.Nodup →
    (∀ b ∈ bs, fr.owned b ∧ ∀ j o, σ j = some o → blk G j o ≠ some b) → (∀ k, n ≤ k → k < n + cntL l → free k) →
    ∃ G', Made P fr free σ w G n (n + cntL l) ((mkL l x n).flatMap (·.obs)) bs G' ∧ vs.length = l.length ∧ (mkL l x n).length = l.length ∧
      ∀ (j : Nat) (m : Mk) (v : Value), (mkL l x n)[j]? = some m → vs[j]? = some v → SR P w G' m.sv v := by
  intro l
  induction l with
  | nil =>
    intro x n free vs bs hm h _ _ _
    obtain ⟨rfl, rfl⟩ := h
    exact ⟨G, Made.none hm, rfl, rfl, fun j m v h => by simp [mkL] at h⟩
  | cons a l ih =>
    intro x n free vs bs hm h hnd hbs hfree
    cases l with
    | nil =>
      obtain ⟨v, rfl, h1⟩ := h
      obtain ⟨G', h2, h3⟩ := mkV_ok (n := n) hm h1 hnd hbs (fun k h1 h2 => hfree k h1 (by simp only [cntL]; omega))
      refine ⟨G', ?_, rfl, rfl, fun j m v' hj hv => ?_⟩
      · have e1 : (mkL [a] x n).flatMap (·.obs) = (mkC a x n).obs := by
          show ([mkC a x n] : List Mk).flatMap (·.obs) = _
          simp
        rw [e1]; exact h2
      · cases j with
        | zero => cases hj; cases hv; exact h3
        | succ j => cases hj
    | cons b l =>
      obtain ⟨v, vs', bs1, bs2, rfl, rfl, h1, h2⟩ := h
      have hnd' := List.nodup_append.1 hnd
      obtain ⟨G1, m1, l1, l2, r1⟩ := ih (x := x.2) (n := n + a.cnt) hm h2 hnd'.2.1 (fun b hb => hbs b (List.mem_append_right _ hb)) (fun k h1 h2 => hfree k (by omega) (by simp only [cntL] at h2 ⊢; omega))
      obtain ⟨G2, m2, r2⟩ := mkV_ok (s := a) (x := x.1) (n := n) (v := v) m1.mem (by rw [m1.im]; exact h1) hnd'.1 (fun b hb => ⟨(hbs b (List.mem_append_left _ hb)).1, fun j o ho hb2 => by
        rcases m1.own j o b ho hb2 with h | ⟨j', o', h3, h4⟩
        · exact hnd'.2.2 b hb b h rfl
        · exact (hbs b (List.mem_append_left _ hb)).2 j' o' h3 h4⟩) (fun k h1 h2 => ⟨hfree k h1 (by simp only [cntL]; omega), by omega⟩)
      have e0 : mkL (a :: b :: l) x n = mkC a x.1 n :: mkL (b :: l) x.2 (n + a.cnt) := by
        show mkC a x.1 n :: mkL (b :: l) x.2 (mkC a x.1 n).nx = _
        rw [mkC_nx]
      have e1 : (mkL (a :: b :: l) x n).flatMap (·.obs) = (mkC a x.1 n).obs ++ (mkL (b :: l) x.2 (n + a.cnt)).flatMap (·.obs) := by
        rw [e0, List.flatMap_cons]
      refine ⟨G2, ⟨m1.le.trans m2.le, m2.im.trans m1.im, ?_, ?_⟩, by simp [l1], by rw [e0]; simp [l2], fun j m v' hj hv => ?_⟩
      · rw [e1, putSto_append]
        exact m2.mem.shrink fun j hj => ⟨⟨hj.1, fun e => hj.2 ⟨by omega, by simp only [cntL] at e ⊢; omega⟩⟩, fun e => hj.2 ⟨e.1, by simp only [cntL]; omega⟩⟩
      · intro j o b' hj hb
        rw [e1, putSto_append] at hj
        rcases m2.own j o b' hj hb with h | ⟨j', o', h3, h4⟩
        · exact .inl (List.mem_append_left _ h)
        · rcases m1.own j' o' b' h3 h4 with h | h
          · exact .inl (List.mem_append_right _ h)
          · exact .inr h
      · rw [e0] at hj
        cases j with
        | zero => cases hj; cases hv; exact r2
        | succ j => exact (r1 j m v' (by simpa using hj) (by simpa using hv)).mono m2.le

end
end Go.Ev
