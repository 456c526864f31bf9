/-
  That the plain functions give an answer, first part: names of packages, sorting.
-/
import Derived.Test.YthepbdhoogphdaaGreatDoorE3
import Derived.Test.YthepbdhoogphdaaGreatDoorD
set_option linter.unusedVariables false
set_option linter.unusedSimpArgs false
set_option linter.unusedSectionVars false
set_option maxRecDepth 100000
namespace Go.Ev
def Tot {α : Type} (m : Option α) (Q : α → Prop) : Prop := ∃ x, m = some x ∧ Q x
section
variable {α β : Type} {m n : Option α} {P Q : α → Prop}
theorem Tot.mono (h : Tot m P) (k : ∀ x, P x → Q x) : Tot m Q := let ⟨x, h1, h2⟩ := h; ⟨x, h1, k x h2⟩
theorem ub_ {x : α} : Tot (some x) Q ↔ Q x := ⟨fun ⟨_, h1, h2⟩ => Option.some.inj h1 ▸ h2, fun h => ⟨x, rfl, h⟩⟩
theorem ua_ {f : α → Option β} {R : β → Prop} : Tot (m.bind f) R ↔ Tot m fun x => Tot (f x) R := by
 constructor
 · rintro ⟨y, h1, h2⟩
   obtain ⟨x, h3, h4⟩ := Option.bind_eq_some_iff.1 h1
   exact ⟨x, h3, y, h4, h2⟩
 · rintro ⟨x, rfl, y, h1, h2⟩
   exact ⟨y, h1, h2⟩
theorem ug_ {b : Bool} : Tot (bif b then m else n) Q ↔ (b = true → Tot m Q) ∧ (b = false → Tot n Q) := by
 cases b
 · exact ⟨fun h => ⟨fun e => (by cases e), fun _ => h⟩, fun h => h.2 rfl⟩
 · exact ⟨fun h => ⟨fun _ => h, fun e => (by cases e)⟩, fun h => h.1 rfl⟩
theorem uft_ {n : Nat} {i : Int} {Q : Unit → Prop} : Tot (in? n i) Q ↔ (0 ≤ i ∧ i < n) ∧ Q () := by
 unfold in? Tot
 by_cases h1 : 0 ≤ i <;> by_cases h2 : i < n <;> simp [h1, h2]
 exact ⟨fun ⟨_, h⟩ => h, fun h => ⟨(), h⟩⟩
theorem ueb_ {a b : Str} {Q : Str → Prop} : Tot (cat? a b) Q ↔ a.length + b.length ≤ 281474976710656 ∧ Q (a ++ b) := by
 unfold cat? Tot
 by_cases h : a.length + b.length ≤ 281474976710656 <;> simp [h]
theorem ulj_ {B : Nat} {a b : List α} {Q : List α → Prop} : Tot (app? B a b) Q ↔ (a.length + b.length) * B ≤ 70368744177664 ∧ Q (a ++ b) := by
 unfold app? Tot
 by_cases h : (a.length + b.length) * B ≤ 70368744177664 <;> simp [h]
theorem uo6_ {l : List α} {lo hi : Int} {Q : List α → Prop} : Tot (cut? l lo hi) Q ↔ (0 ≤ lo ∧ lo ≤ hi ∧ hi ≤ l.length) ∧ Q ((l.take hi.toNat).drop lo.toNat) := by
 unfold cut? Tot
 by_cases h1 : 0 ≤ lo <;> by_cases h2 : lo ≤ hi <;> by_cases h3 : hi ≤ l.length <;> simp [h1, h2, h3]
theorem uccl_ {l : List α} {i : Int} {Q : α → Prop} (h1 : 0 ≤ i) (h2 : i < l.length) (h3 : ∀ x, x ∈ l → l[i.toNat]? = some x → Q x) : Tot (at? l i) Q := by
 have hlt : i.toNat < l.length := by omega
 refine ⟨l[i.toNat], ?_, h3 _ (List.getElem_mem hlt) (List.getElem?_eq_getElem hlt)⟩
 unfold at?
 rw [decide_eq_true h1]
 exact List.getElem?_eq_getElem hlt
theorem u8_ {l : List α} {i : Int} {Q : α → Prop} : Tot (at? l i) Q ↔ (0 ≤ i ∧ i < l.length) ∧ ∀ x, l[i.toNat]? = some x → Q x := by
 constructor
 · rintro ⟨x, h1, h2⟩
   unfold at? at h1
   by_cases h0 : 0 ≤ i
   · rw [decide_eq_true h0] at h1
     have h1 : l[i.toNat]? = some x := h1
     have hlt := (List.getElem?_eq_some_iff.1 h1).1
     exact ⟨⟨h0, by omega⟩, fun y hy => by rw [h1] at hy; cases hy; exact h2⟩
   · rw [decide_eq_false h0] at h1; cases h1
 · rintro ⟨⟨h1, h2⟩, h3⟩
   exact uccl_ h1 h2 fun x _ hx => h3 x hx
theorem uv_ {r : (α → Option β) → α → Option β} {R : β → Prop} (I : α → Prop) (μ : α → Nat) (h : ∀ next x, I x → (∀ y, I y → μ y < μ x → Tot (next y) R) → Tot (r next x) R) :
 ∀ (k : Nat) (x : α), I x → μ x < k → Tot (loopN r k x) R := by
 intro k
 induction k with
 | zero => intro x _ h; omega
 | succ k ih => intro x hx hk; exact h _ x hx fun y hy hm => ih y hy (by omega)
theorem ubm_ {n : Int} (h1 : -9223372036854775808 ≤ n) (h2 : n ≤ 9223372036854775807) : IntKind.i64.wrap n = n := by
 simp only [IntKind.wrap, IntKind.bits, IntKind.signed]
 simp
 omega
theorem wrap8 {n : Int} (h1 : 0 ≤ n) (h2 : n ≤ 255) : IntKind.u8.wrap n = n := by
 simp only [IntKind.wrap, IntKind.bits, IntKind.signed]
 simp
 omega
theorem ub4r_ (n : Int) : 0 ≤ IntKind.u8.wrap n ∧ IntKind.u8.wrap n ≤ 255 := by
 simp only [IntKind.wrap, IntKind.bits, IntKind.signed]
 simp
 omega
end
end Go.Ev
namespace Go.Ev.Pv
theorem un_ {n : Int} : -9223372036854775808 ≤ n → n ≤ 9223372036854775807 → IntKind.i64.wrap n = n := fun h1 h2 => ubm_ h1 h2
theorem u8le (b : UInt8) : b.toNat ≤ 255 := by have := b.toNat_lt; omega
theorem u3_ {n : Int} : 0 ≤ n → n ≤ 255 → IntKind.u8.wrap n = n := fun h1 h2 => wrap8 h1 h2
theorem u4_ (n : Int) : 0 ≤ IntKind.u8.wrap n ∧ IntKind.u8.wrap n ≤ 255 := ub4r_ n
theorem ud_ (s : Str) : (uet_ s).length = s.length := by simp [uet_]
theorem uh_ (s : List Int) : (strOf s).length = s.length := by simp [strOf]
theorem uy_ (s t : Str) : eqS s t = decide (s = t) := by unfold eqS; by_cases h : s = t <;> simp [h]
theorem up_ (s t : Int) : eqI s t = decide (s = t) := by unfold eqI; by_cases h : s = t <;> simp [h]
theorem uhj_ (x : Str × Int) (h : x.1.length ≤ 1048576) : Tot (strings_IndexByte x) (fun r : Int => -1 ≤ r) := by
 unfold strings_IndexByte ifB
 rw [decide_eq_true (by omega)]
 exact ub_.2 (Lib.indexByte_ge _ _)
theorem ub2l_ (sep : Str) (m : Nat) : ∀ xs : List Str, (∀ s ∈ xs, s.length ≤ m) → (Lib.join xs sep).length ≤ xs.length * (m + sep.length) := by
 intro xs
 induction xs with
 | nil => intro _; simp [Lib.join, List.intercalate]
 | cons a r ih =>
   intro h
   have h1 := h a List.mem_cons_self
   have h2 := ih fun s hs => h s (List.mem_cons_of_mem _ hs)
   cases r with
   | nil => simp [Lib.join, List.intercalate]; omega
   | cons b r =>
     have e : Lib.join (a :: b :: r) sep = a ++ (sep ++ Lib.join (b :: r) sep) := by simp [Lib.join, List.intercalate, List.intersperse]
     rw [e]
     simp only [List.length_append, List.length_cons] at h2 ⊢
     have e2 : (r.length + 1 + 1) * (m + sep.length) = (r.length + 1) * (m + sep.length) + (m + sep.length) := by rw [Nat.add_mul (r.length + 1)]; omega
     rw [e2]
     omega
theorem ucbo_ {xs : List Str} (h1 : xs.length ≤ 1048577) (h2 : ∀ s ∈ xs, s.length ≤ 1048576) : (Lib.join xs [47]).length ≤ 1099513724929 := by
 have h := ub2l_ [47] 1048576 xs h2
 have : xs.length * (1048576 + [(47 : UInt8)].length) ≤ 1048577 * (1048576 + 1) := Nat.mul_le_mul h1 (Nat.le_refl _)
 omega
theorem uk3_ (x : (List Str) × Str) (h : x.1.length ≤ 140737488355328 ∧ (Lib.join x.1 x.2).length ≤ 140737488355328) : Tot (strings_Join x) (fun r => r = Lib.join x.1 x.2) := by
 unfold strings_Join ifB
 rw [decide_eq_true h]
 exact ub_.2 rfl
theorem ubtf_ (x : (List Int) × Int × Int) (h : 0 ≤ x.2.2 ∧ x.2.2 ≤ x.2.1 ∧ x.2.1 = x.1.length ∧ x.2.1 ≤ 281474976710656) : Tot (ubev_ x) (fun r : List Int => r.length = x.1.length) := by
 refine uv_ (R := fun r : List Int => r.length = x.1.length) (fun y : (List Int) × Int × Int => (0 ≤ y.2.2 ∧ y.2.2 ≤ y.2.1 ∧ y.2.1 = y.1.length ∧ y.2.1 ≤ 281474976710656) ∧ y.1.length = x.1.length) (fun y : (List Int) × Int × Int => (y.2.1 - y.2.2).toNat) ?_ _ _ (by grind) (by unfold fuel; grind)
 rintro next ⟨b_3, t9, t10⟩ h hn
 try dsimp only at h hn
 unfold ubrq_
 repeat' first
  | with_reducible refine ug_.2 ⟨fun _ => ?_, fun _ => ?_⟩
  | with_reducible refine ua_.2 ?_
  | with_reducible refine ub_.2 ?_
  | with_reducible refine uft_.2 ⟨?_, ?_⟩
  | with_reducible refine hn _ ?_ ?_
  | dsimp only
 all_goals grind [un_, uh_, ud_, uy_, up_, u4_, u3_, u8le]
theorem ubbm_ (x : Str) (h : x.length ≤ 1048576) : Tot (u1d_ x) (fun r : Str => r.length = x.length) := by
 unfold u1d_
 repeat' first
  | with_reducible refine ua_.2 ?_
  | with_reducible refine ub_.2 ?_
  | with_reducible refine u8_.2 ⟨?_, fun _ _ => ?_⟩
  | with_reducible refine ueb_.2 ⟨?_, ?_⟩
  | with_reducible refine (ubtf_ _ ?_).mono fun _ _ => ?_
  | dsimp only
 all_goals grind [un_, uh_, ud_, uy_, up_, u4_, u3_, u8le]
theorem ugd_ (x : YY10 × Int) (h : True) : Tot (ue9_ x) (fun r : Str × Int × Int => r.1 = x.1.1 ∧ r.2.1 = x.1.2.1 ∧ (0 ≤ x.2 → 0 ≤ r.2.2)) := by
 obtain ⟨r_0, at_1⟩ := x
 try dsimp only at h ⊢
 unfold ue9_
 repeat' first
  | with_reducible refine ug_.2 ⟨fun _ => ?_, fun _ => ?_⟩
  | with_reducible refine ub_.2 ?_
  | dsimp only
 all_goals grind [un_, uh_, ud_, uy_, up_, u4_, u3_, u8le]
theorem uge_ (x : Option YY10) (h : ∃ y, x = some y ∧ 0 ≤ y.2.1) : Tot (uee_ x) (fun r : Int => 0 ≤ r ∧ (r = 0 ∨ ∃ y, x = some y ∧ y.2.1 < y.1.length)) := by
 unfold uee_
 obtain ⟨y, rfl, h⟩ := h
 repeat' first
  | with_reducible refine ug_.2 ⟨fun _ => ?_, fun _ => ?_⟩
  | with_reducible refine ua_.2 ?_
  | with_reducible refine ub_.2 ?_
  | with_reducible refine u8_.2 ⟨?_, fun _ _ => ?_⟩
  | dsimp only
 all_goals grind [un_, uh_, ud_, uy_, up_, u4_, u3_, u8le]
theorem ubc0_ (x : Int) (h : True) : Tot (uxs_ x) (fun r : Bool => True) := by
 unfold uxs_
 repeat' first
  | with_reducible refine ub_.2 ?_
  | dsimp only
 all_goals grind [un_, uh_, ud_, uy_, up_, u4_, u3_, u8le]
theorem ubed_ (x : YY10 × Int) (h : 0 ≤ x.2 ∧ x.2 ≤ (4 : Int) ∧ (4 : Int) ≤ 281474976710656 ∧ x.1.1.length ≤ 1048576 ∧ 0 ≤ x.1.2.1 ∧ x.1.2.1 ≤ x.1.1.length ∧ x.2 ≤ x.1.1.length) : Tot (utn_ x) (fun r : Sum YY10 (YY10 × Str) => match r with | .inl q => q = x.1 ∧ 4 ≤ x.1.1.length | .inr q => q.1.1 = x.1.1 ∧ q.1.2.1 = x.1.2.1 ∧ q.2 = []) := by
 refine uv_ (R := fun r : Sum YY10 (YY10 × Str) => match r with | .inl q => q = x.1 ∧ 4 ≤ x.1.1.length | .inr q => q.1.1 = x.1.1 ∧ q.1.2.1 = x.1.2.1 ∧ q.2 = []) (fun y : YY10 × Int => (0 ≤ y.2 ∧ y.2 ≤ (4 : Int) ∧ (4 : Int) ≤ 281474976710656 ∧ y.1.1.length ≤ 1048576 ∧ 0 ≤ y.1.2.1 ∧ y.1.2.1 ≤ y.1.1.length ∧ y.2 ≤ y.1.1.length) ∧ y.1 = x.1) (fun y : YY10 × Int => ((4 : Int) - y.2).toNat) ?_ _ _ (by grind) (by unfold fuel; grind)
 rintro next ⟨r_0, t7⟩ h hn
 try dsimp only at h hn
 unfold u4n_
 repeat' first
  | with_reducible refine ug_.2 ⟨fun _ => ?_, fun _ => ?_⟩
  | with_reducible refine ua_.2 ?_
  | with_reducible refine ub_.2 ?_
  | with_reducible refine uo6_.2 ⟨?_, ?_⟩
  | with_reducible refine (ubbm_ _ ?_).mono fun _ _ => ?_
  | with_reducible refine (ugd_ _ ?_).mono fun _ _ => ?_
  | with_reducible refine hn _ ?_ ?_
  | dsimp only
 all_goals grind [un_, uh_, ud_, uy_, up_, u4_, u3_, u8le]
theorem ubee_ (x : Str × Int × Int) (h : x.1.length ≤ 1048576 ∧ 0 ≤ x.2.1 ∧ x.2.1 ≤ x.1.length) : Tot (uto_ x) (fun r : Str × Int × Int => r.1 = x.1 ∧ r.2.2 = x.2.2 ∧ x.2.1 ≤ r.2.1 ∧ r.2.1 ≤ r.1.length) := by
 refine uv_ (R := fun r : Str × Int × Int => r.1 = x.1 ∧ r.2.2 = x.2.2 ∧ x.2.1 ≤ r.2.1 ∧ r.2.1 ≤ r.1.length) (fun y : Str × Int × Int => (y.1.length ≤ 1048576 ∧ 0 ≤ y.2.1 ∧ y.2.1 ≤ y.1.length) ∧ y.1 = x.1 ∧ y.2.2 = x.2.2 ∧ x.2.1 ≤ y.2.1) (fun y : Str × Int × Int => (y.1.length - y.2.1).toNat) ?_ _ _ (by grind) (by unfold fuel; grind)
 rintro next r_0 h hn
 try dsimp only at h hn
 unfold u4o_
 repeat' first
  | with_reducible refine ug_.2 ⟨fun _ => ?_, fun _ => ?_⟩
  | with_reducible refine ua_.2 ?_
  | with_reducible refine ub_.2 ?_
  | with_reducible refine u8_.2 ⟨?_, fun _ _ => ?_⟩
  | with_reducible refine (ubc0_ _ ?_).mono fun _ _ => ?_
  | with_reducible refine hn _ ?_ ?_
  | dsimp only
 all_goals grind [un_, uh_, ud_, uy_, up_, u4_, u3_, u8le]
theorem ubef_ (x : YY10 × Bool) (h : x.1.1.length ≤ 1048576 ∧ 0 ≤ x.1.2.1 ∧ x.1.2.1 ≤ x.1.1.length ∧ (x.2 = true → x.1.2.1 < x.1.1.length)) : Tot (unr_ x) (fun r : Str × Int × Int => r.1 = x.1.1 ∧ x.1.2.1 ≤ r.2.1 ∧ r.2.1 ≤ r.1.length) := by
 obtain ⟨r_0, t45⟩ := x
 try dsimp only at h ⊢
 unfold unr_
 repeat' first
  | with_reducible refine ug_.2 ⟨fun _ => ?_, fun _ => ?_⟩
  | with_reducible refine ua_.2 ?_
  | with_reducible refine ub_.2 ?_
  | with_reducible refine (ubee_ _ ?_).mono fun _ _ => ?_
  | dsimp only
 all_goals grind [un_, uh_, ud_, uy_, up_, u4_, u3_, u8le]
theorem ubmn_ (x : YY10 × Bool) (h : x.1.1.length ≤ 1048576 ∧ 0 ≤ x.1.2.1 ∧ x.1.2.1 ≤ x.1.1.length) : Tot (utp_ x) (fun r : Str × YY10 => r.2.1 = x.1.1 ∧ 0 ≤ r.2.2.1 ∧ r.2.2.1 ≤ x.1.1.length ∧ r.1.length ≤ x.1.1.length) := by
 obtain ⟨r_0, star_1⟩ := x
 try dsimp only at h ⊢
 unfold utp_
 repeat' first
  | with_reducible refine ug_.2 ⟨fun _ => ?_, fun _ => ?_⟩
  | with_reducible refine ua_.2 ?_
  | with_reducible refine ub_.2 ?_
  | with_reducible refine uo6_.2 ⟨?_, ?_⟩
  | with_reducible refine (ubed_ _ ?_).mono fun _ _ => ?_
  | with_reducible refine (uge_ _ ?_).mono fun _ _ => ?_
  | with_reducible refine (ubef_ _ ?_).mono fun _ _ => ?_
  | with_reducible refine (ugd_ _ ?_).mono fun _ _ => ?_
  | with_reducible refine (ubbm_ _ ?_).mono fun _ _ => ?_
  | split
  | dsimp only
 all_goals grind [un_, uh_, ud_, uy_, up_, u4_, u3_, u8le]
theorem ub2m_ (x : Int) (h : 0 ≤ x ∧ x ≤ 255) : Tot (ubyt_ x) (fun r : Int => -1 ≤ r ∧ r ≤ 15) := by
 unfold ubyt_
 repeat' first
  | with_reducible refine ug_.2 ⟨fun _ => ?_, fun _ => ?_⟩
  | with_reducible refine ub_.2 ?_
  | dsimp only
 all_goals grind [un_, uh_, ud_, uy_, up_, u4_, u3_, u8le]
theorem ubbn_ (x : YY10 × Int × Int × Bool) (h : x.1.1.length ≤ 1048576 ∧ 0 ≤ x.1.2.1 ∧ x.1.2.1 ≤ x.1.1.length ∧ 1 ≤ x.2.1 ∧ x.2.1 ≤ 2 ∧ x.2.2.1 = -1 ∧ (x.2.2.2 = true → x.1.2.1 + x.2.1 < x.1.1.length)) : Tot (ull_ x) (fun r : YY10 × Int => r.1 = x.1 ∧ (x.2.2.2 = true ∨ r.2 = -1)) := by
 obtain ⟨r_0, i_6, d_7, t63⟩ := x
 try dsimp only at h ⊢
 unfold ull_
 repeat' first
  | with_reducible refine ug_.2 ⟨fun _ => ?_, fun _ => ?_⟩
  | with_reducible refine ua_.2 ?_
  | with_reducible refine ub_.2 ?_
  | with_reducible refine u8_.2 ⟨?_, fun _ _ => ?_⟩
  | with_reducible refine (ub2m_ _ ?_).mono fun _ _ => ?_
  | dsimp only
 all_goals grind [un_, uh_, ud_, uy_, up_, u4_, u3_, u8le]
theorem ubbo_ (x : YY10 × Int × Int) (h : x.1.1.length ≤ 1048576 ∧ 0 ≤ x.1.2.1 ∧ x.1.2.1 ≤ x.1.1.length ∧ 1 ≤ x.2.2 ∧ x.2.2 ≤ 3 ∧ x.1.2.1 + x.2.2 ≤ x.1.1.length) : Tot (ur1_ x) (fun r : Sum (YY10 × Int) (YY10 × Int × Bool) => match r with | .inl q => q.1 = x.1 ∧ x.1.2.1 + 3 ≤ x.1.1.length | .inr q => q.1.1 = x.1.1 ∧ q.1.2.1 = x.1.2.1 ∧ q.2.2 = false) := by
 refine uv_ (R := fun r : Sum (YY10 × Int) (YY10 × Int × Bool) => match r with | .inl q => q.1 = x.1 ∧ x.1.2.1 + 3 ≤ x.1.1.length | .inr q => q.1.1 = x.1.1 ∧ q.1.2.1 = x.1.2.1 ∧ q.2.2 = false) (fun y : YY10 × Int × Int => (y.1.1.length ≤ 1048576 ∧ 0 ≤ y.1.2.1 ∧ y.1.2.1 ≤ y.1.1.length ∧ 1 ≤ y.2.2 ∧ y.2.2 ≤ 3 ∧ y.1.2.1 + y.2.2 ≤ y.1.1.length) ∧ y.1 = x.1) (fun y : YY10 × Int × Int => (3 - y.2.2).toNat) ?_ _ _ (by grind) (by unfold fuel; grind)
 rintro next ⟨r_0, n_5, i_6⟩ h hn
 try dsimp only at h hn
 unfold u1e_
 repeat' first
  | with_reducible refine ug_.2 ⟨fun _ => ?_, fun _ => ?_⟩
  | with_reducible refine ua_.2 ?_
  | with_reducible refine ub_.2 ?_
  | with_reducible refine (ubbn_ _ ?_).mono fun _ _ => ?_
  | with_reducible refine (ugd_ _ ?_).mono fun _ _ => ?_
  | with_reducible refine hn _ ?_ ?_
  | dsimp only
 all_goals grind [un_, uh_, ud_, uy_, up_, u4_, u3_, u8le]
theorem ubjl_ (x : Str × Int × Int) (h : x.1.length ≤ 1048576 ∧ 0 ≤ x.2.1 ∧ x.2.1 ≤ x.1.length) : Tot (urm_ x) (fun r : Int × Bool × YY10 => r.2.2.1 = x.1 ∧ x.2.1 ≤ r.2.2.2.1 ∧ r.2.2.2.1 ≤ x.1.length ∧ (r.2.1 = true → x.2.1 < r.2.2.2.1)) := by
 unfold urm_
 repeat' first
  | with_reducible refine ug_.2 ⟨fun _ => ?_, fun _ => ?_⟩
  | with_reducible refine ua_.2 ?_
  | with_reducible refine ub_.2 ?_
  | with_reducible refine u8_.2 ⟨?_, fun _ _ => ?_⟩
  | with_reducible refine (uhj_ _ ?_).mono fun _ _ => ?_
  | with_reducible refine (ubbo_ _ ?_).mono fun _ _ => ?_
  | split
  | dsimp only
 all_goals grind [un_, uh_, ud_, uy_, up_, u4_, u3_, u8le]
theorem ubeg_ (x : YY10 × (List Int)) (h : x.1.1.length ≤ 1048576 ∧ 0 ≤ x.1.2.1 ∧ x.1.2.1 ≤ x.1.1.length ∧ x.2.length ≤ x.1.2.1) : Tot (utq_ x) (fun r : YY10 × (List Int) => r.1.1 = x.1.1 ∧ x.1.2.1 ≤ r.1.2.1 ∧ r.1.2.1 ≤ x.1.1.length ∧ r.2.length ≤ r.1.2.1) := by
 refine uv_ (R := fun r : YY10 × (List Int) => r.1.1 = x.1.1 ∧ x.1.2.1 ≤ r.1.2.1 ∧ r.1.2.1 ≤ x.1.1.length ∧ r.2.length ≤ r.1.2.1) (fun y : YY10 × (List Int) => (y.1.1.length ≤ 1048576 ∧ 0 ≤ y.1.2.1 ∧ y.1.2.1 ≤ y.1.1.length ∧ y.2.length ≤ y.1.2.1) ∧ y.1.1 = x.1.1 ∧ x.1.2.1 ≤ y.1.2.1) (fun y : YY10 × (List Int) => (y.1.1.length - y.1.2.1).toNat) ?_ _ _ (by grind) (by unfold fuel; grind)
 rintro next ⟨r_0, b_3⟩ h hn
 try dsimp only at h hn
 unfold u4p_
 repeat' first
  | with_reducible refine ug_.2 ⟨fun _ => ?_, fun _ => ?_⟩
  | with_reducible refine ua_.2 ?_
  | with_reducible refine ub_.2 ?_
  | with_reducible refine ulj_.2 ⟨?_, ?_⟩
  | with_reducible refine (ubjl_ _ ?_).mono fun _ _ => ?_
  | with_reducible refine hn _ ?_ ?_
  | dsimp only
 all_goals grind [un_, uh_, ud_, uy_, up_, u4_, u3_, u8le]
theorem umi_ (x : Str × Int × Int) (h : x.1.length ≤ 1048576 ∧ 0 ≤ x.2.1 ∧ x.2.1 ≤ x.1.length) : Tot (uhs_ x) (fun r : Str × YY10 => r.2.1 = x.1 ∧ x.2.1 ≤ r.2.2.1 ∧ r.2.2.1 ≤ x.1.length ∧ r.1.length ≤ x.1.length) := by
 unfold uhs_
 repeat' first
  | with_reducible refine ug_.2 ⟨fun _ => ?_, fun _ => ?_⟩
  | with_reducible refine ua_.2 ?_
  | with_reducible refine ub_.2 ?_
  | with_reducible refine u8_.2 ⟨?_, fun _ _ => ?_⟩
  | with_reducible refine ueb_.2 ⟨?_, ?_⟩
  | with_reducible refine (ubeg_ _ ?_).mono fun _ _ => ?_
  | with_reducible refine (ugd_ _ ?_).mono fun _ _ => ?_
  | dsimp only
 all_goals grind [un_, uh_, ud_, uy_, up_, u4_, u3_, u8le]
theorem ubbp_ (x : YY10 × (List Str)) (h : x.1.1.length ≤ 1048576 ∧ 0 ≤ x.1.2.1 ∧ x.1.2.1 ≤ x.1.1.length ∧ x.2.length ≤ x.1.2.1 + 1 ∧ ∀ s ∈ x.2, s.length ≤ 1048576) : Tot (ur2_ x) (fun r : YY10 × (List Str) => r.1.1 = x.1.1 ∧ x.1.2.1 ≤ r.1.2.1 ∧ r.1.2.1 ≤ x.1.1.length ∧ x.2.length ≤ r.2.length ∧ r.2.length ≤ 1048577 ∧ ∀ s ∈ r.2, s.length ≤ 1048576) := by
 refine uv_ (R := fun r : YY10 × (List Str) => r.1.1 = x.1.1 ∧ x.1.2.1 ≤ r.1.2.1 ∧ r.1.2.1 ≤ x.1.1.length ∧ x.2.length ≤ r.2.length ∧ r.2.length ≤ 1048577 ∧ ∀ s ∈ r.2, s.length ≤ 1048576) (fun y : YY10 × (List Str) => (y.1.1.length ≤ 1048576 ∧ 0 ≤ y.1.2.1 ∧ y.1.2.1 ≤ y.1.1.length ∧ y.2.length ≤ y.1.2.1 + 1 ∧ ∀ s ∈ y.2, s.length ≤ 1048576) ∧ y.1.1 = x.1.1 ∧ x.1.2.1 ≤ y.1.2.1 ∧ x.2.length ≤ y.2.length) (fun y : YY10 × (List Str) => (y.1.1.length - y.1.2.1).toNat) ?_ _ _ (by grind) (by unfold fuel; grind)
 rintro next ⟨r_0, l_3⟩ h hn
 try dsimp only at h hn
 unfold u1f_
 repeat' first
  | with_reducible refine ug_.2 ⟨fun _ => ?_, fun _ => ?_⟩
  | with_reducible refine ua_.2 ?_
  | with_reducible refine ub_.2 ?_
  | with_reducible refine ulj_.2 ⟨?_, ?_⟩
  | with_reducible refine (uge_ _ ?_).mono fun _ _ => ?_
  | with_reducible refine (umi_ _ ?_).mono fun _ _ => ?_
  | with_reducible refine hn _ ?_ ?_
  | dsimp only
 all_goals grind [un_, uh_, ud_, uy_, up_, u4_, u3_, u8le]
theorem u0n_ (x : Str × Int × Int) (h : x.1.length ≤ 1048576 ∧ 0 ≤ x.2.1 ∧ x.2.1 ≤ x.1.length) : Tot (uml_ x) (fun r : (List Str) × YY10 => r.2.1 = x.1 ∧ x.2.1 ≤ r.2.2.1 ∧ r.2.2.1 ≤ x.1.length ∧ 1 ≤ r.1.length ∧ r.1.length ≤ 1048577 ∧ ∀ s ∈ r.1, s.length ≤ 1048576) := by
 unfold uml_
 repeat' first
  | with_reducible refine ua_.2 ?_
  | with_reducible refine ub_.2 ?_
  | with_reducible refine (umi_ _ ?_).mono fun _ _ => ?_
  | with_reducible refine (ubbp_ _ ?_).mono fun _ _ => ?_
  | dsimp only
 all_goals grind [un_, uh_, ud_, uy_, up_, u4_, u3_, u8le]
theorem ubc1_ (x : Int × Bool) (h : True) : Tot (uxt_ x) (fun r : Bool => True) := by
 obtain ⟨c_0, first_1⟩ := x
 try dsimp only at h ⊢
 unfold uxt_
 repeat' first
  | with_reducible refine ug_.2 ⟨fun _ => ?_, fun _ => ?_⟩
  | with_reducible refine ub_.2 ?_
  | dsimp only
 all_goals grind [un_, uh_, ud_, uy_, up_, u4_, u3_, u8le]
theorem u24_ (x : YY10 × Int) (h : x.1.1.length ≤ 1048576 ∧ 0 ≤ x.1.2.1 ∧ x.1.2.1 ≤ x.1.1.length) : Tot (ulm_ x) (fun r : Str × Int × Int => r.1 = x.1.1 ∧ x.1.2.1 ≤ r.2.1 ∧ r.2.1 ≤ x.1.1.length) := by
 refine uv_ (R := fun r : Str × Int × Int => r.1 = x.1.1 ∧ x.1.2.1 ≤ r.2.1 ∧ r.2.1 ≤ x.1.1.length) (fun y : YY10 × Int => (y.1.1.length ≤ 1048576 ∧ 0 ≤ y.1.2.1 ∧ y.1.2.1 ≤ y.1.1.length) ∧ y.1.1 = x.1.1 ∧ y.1.2.2 = x.1.2.2 ∧ x.1.2.1 ≤ y.1.2.1) (fun y : YY10 × Int => (y.1.1.length - y.1.2.1).toNat) ?_ _ _ (by grind) (by unfold fuel; grind)
 rintro next ⟨r_0, from_3⟩ h hn
 try dsimp only at h hn
 unfold utr_
 repeat' first
  | with_reducible refine ug_.2 ⟨fun _ => ?_, fun _ => ?_⟩
  | with_reducible refine ua_.2 ?_
  | with_reducible refine ub_.2 ?_
  | with_reducible refine u8_.2 ⟨?_, fun _ _ => ?_⟩
  | with_reducible refine (ubc1_ _ ?_).mono fun _ _ => ?_
  | with_reducible refine hn _ ?_ ?_
  | dsimp only
 all_goals grind [un_, uh_, ud_, uy_, up_, u4_, u3_, u8le]
theorem u89_ (x : Str × Int × Int) (h : x.1.length ≤ 1048576 ∧ 0 ≤ x.2.1 ∧ x.2.1 ≤ x.1.length) : Tot (ujv_ x) (fun r : (Str × Str) × YY10 => r.2.1 = x.1 ∧ x.2.1 ≤ r.2.2.1 ∧ r.2.2.1 ≤ x.1.length ∧ r.1.1.length ≤ 1048576 ∧ r.1.2.length ≤ 1048576) := by
 unfold ujv_
 repeat' first
  | with_reducible refine ug_.2 ⟨fun _ => ?_, fun _ => ?_⟩
  | with_reducible refine ua_.2 ?_
  | with_reducible refine ub_.2 ?_
  | with_reducible refine uo6_.2 ⟨?_, ?_⟩
  | with_reducible refine (u24_ _ ?_).mono fun _ _ => ?_
  | with_reducible refine (uge_ _ ?_).mono fun _ _ => ?_
  | with_reducible refine (ugd_ _ ?_).mono fun _ _ => ?_
  | with_reducible refine (umi_ _ ?_).mono fun _ _ => ?_
  | dsimp only
 all_goals grind [un_, uh_, ud_, uy_, up_, u4_, u3_, u8le]
theorem ubeh_ (x : YY10 × YY12 × Bool) (h : x.1.1.length ≤ 1048576 ∧ 0 ≤ x.1.2.1 ∧ x.1.2.1 ≤ x.1.1.length ∧ (x.2.2 = true → x.1.2.1 < x.1.1.length) ∧ x.2.1.2.2.2.1.length ≤ 1048576) : Tot (uns_ x) (fun r : YY10 × YY12 => r.1.1 = x.1.1 ∧ x.1.2.1 ≤ r.1.2.1 ∧ r.1.2.1 ≤ x.1.1.length ∧ r.2.1 = x.2.1.1 ∧ r.2.2.1 = x.2.1.2.1 ∧ r.2.2.2.1 = x.2.1.2.2.1 ∧ r.2.2.2.2.1.length ≤ 1048576 ∧ r.2.2.2.2.2 = x.2.1.2.2.2.2) := by
 obtain ⟨r_0, p_3, t40⟩ := x
 try dsimp only at h ⊢
 unfold uns_
 repeat' first
  | with_reducible refine ug_.2 ⟨fun _ => ?_, fun _ => ?_⟩
  | with_reducible refine ua_.2 ?_
  | with_reducible refine ub_.2 ?_
  | with_reducible refine (umi_ _ ?_).mono fun _ _ => ?_
  | dsimp only
 all_goals grind [un_, uh_, ud_, uy_, up_, u4_, u3_, u8le]
theorem ubei_ (x : YY10 × YY12 × Int) (h : x.1.1.length ≤ 1048576 ∧ 0 ≤ x.1.2.1 ∧ x.1.2.1 ≤ x.1.1.length ∧ x.2.1.2.2.2.2.1.length ≤ x.1.2.1 ∧ x.2.2 ≠ 0 ∧ ∀ q ∈ x.2.1.2.2.2.2.1, q.1.length ≤ 1048576 ∧ q.2.length ≤ 1048576) : Tot (uts_ x) (fun r : YY10 × YY12 => r.1.1 = x.1.1 ∧ x.1.2.1 ≤ r.1.2.1 ∧ r.1.2.1 ≤ x.1.1.length ∧ r.2.1 = x.2.1.1 ∧ r.2.2.1 = x.2.1.2.1 ∧ r.2.2.2.1 = x.2.1.2.2.1 ∧ r.2.2.2.2.1 = x.2.1.2.2.2.1 ∧ r.2.2.2.2.2.2 = x.2.1.2.2.2.2.2 ∧ r.2.2.2.2.2.1.length ≤ 1048576 ∧ ∀ q ∈ r.2.2.2.2.2.1, q.1.length ≤ 1048576 ∧ q.2.length ≤ 1048576) := by
 refine uv_ (R := fun r : YY10 × YY12 => r.1.1 = x.1.1 ∧ x.1.2.1 ≤ r.1.2.1 ∧ r.1.2.1 ≤ x.1.1.length ∧ r.2.1 = x.2.1.1 ∧ r.2.2.1 = x.2.1.2.1 ∧ r.2.2.2.1 = x.2.1.2.2.1 ∧ r.2.2.2.2.1 = x.2.1.2.2.2.1 ∧ r.2.2.2.2.2.2 = x.2.1.2.2.2.2.2 ∧ r.2.2.2.2.2.1.length ≤ 1048576 ∧ ∀ q ∈ r.2.2.2.2.2.1, q.1.length ≤ 1048576 ∧ q.2.length ≤ 1048576) (fun y : YY10 × YY12 × Int => (y.1.1.length ≤ 1048576 ∧ 0 ≤ y.1.2.1 ∧ y.1.2.1 ≤ y.1.1.length ∧ y.2.1.2.2.2.2.1.length ≤ y.1.2.1 ∧ y.2.2 ≠ 0 ∧ ∀ q ∈ y.2.1.2.2.2.2.1, q.1.length ≤ 1048576 ∧ q.2.length ≤ 1048576) ∧ y.1.1 = x.1.1 ∧ y.2.1.1 = x.2.1.1 ∧ y.2.1.2.1 = x.2.1.2.1 ∧ y.2.1.2.2.1 = x.2.1.2.2.1 ∧ y.2.1.2.2.2.1 = x.2.1.2.2.2.1 ∧ y.2.1.2.2.2.2.2 = x.2.1.2.2.2.2.2 ∧ x.1.2.1 ≤ y.1.2.1) (fun y : YY10 × YY12 × Int => (y.1.1.length - y.1.2.1).toNat) ?_ _ _ (by grind) (by unfold fuel; grind)
 rintro next ⟨r_0, p_3, sign_5⟩ h hn
 try dsimp only at h hn
 unfold u4q_
 repeat' first
  | with_reducible refine ug_.2 ⟨fun _ => ?_, fun _ => ?_⟩
  | with_reducible refine ua_.2 ?_
  | with_reducible refine ub_.2 ?_
  | with_reducible refine ulj_.2 ⟨?_, ?_⟩
  | with_reducible refine (uge_ _ ?_).mono fun _ _ => ?_
  | with_reducible refine (u89_ _ ?_).mono fun _ _ => ?_
  | with_reducible refine hn _ ?_ ?_
  | dsimp only
 all_goals grind [un_, uh_, ud_, uy_, up_, u4_, u3_, u8le]
end Go.Ev.Pv
namespace Go.Ev.Pv
theorem div8 {k : IntKind} {a b : Int} {Q : Int → Prop} : Tot (div? k a b) Q ↔ b ≠ 0 ∧ Q (k.wrap (a.tdiv b)) := by
 unfold div? Tot
 by_cases h : b = 0
 · subst h; simp
 · have e : (b == 0) = false := by simpa using h
   rw [e]; simp [h]
theorem mod8 {a b : Int} {Q : Int → Prop} : Tot (mod? a b) Q ↔ b ≠ 0 ∧ Q (a.tmod b) := by
 unfold mod? Tot
 by_cases h : b = 0
 · subst h; simp
 · have e : (b == 0) = false := by simpa using h
   rw [e]; simp [h]
theorem div16 {a : Int} (h0 : 0 ≤ a) (h1 : a ≤ 255) : 0 ≤ a.tdiv 16 ∧ a.tdiv 16 ≤ 15 := by rw [Int.tdiv_eq_ediv_of_nonneg h0]; omega
theorem mod16 {a : Int} (h0 : 0 ≤ a) (h1 : a ≤ 255) : 0 ≤ a.tmod 16 ∧ a.tmod 16 ≤ 15 := by rw [Int.tmod_eq_emod_of_nonneg h0]; omega
theorem u8div (b : UInt8) : 0 ≤ ((b.toNat : Int)).tdiv 16 ∧ ((b.toNat : Int)).tdiv 16 ≤ 15 := div16 (by omega) (by have := u8le b; omega)
theorem u8mod (b : UInt8) : 0 ≤ ((b.toNat : Int)).tmod 16 ∧ ((b.toNat : Int)).tmod 16 ≤ 15 := mod16 (by omega) (by have := u8le b; omega)
theorem uj_ {α : Type} {l : List α} {i : Nat} {d : α} : i < l.length → l.getD i d ∈ l := fun h => by
 rw [List.getD_eq_getElem?_getD, List.getElem?_eq_getElem h]; exact List.getElem_mem h
theorem uf_ {α : Type} {l : List α} {i : Nat} {a b : α} : a ∈ l.set i b → a ∈ l ∨ a = b := List.mem_or_eq_of_mem_set
theorem ubc2_ (x : Str × Str) (h : x.1.length < 4294967281 ∧ 1 ≤ x.2.length) : Tot (strings_Split x) (fun r : List Str => r.length ≤ x.1.length + 2 ∧ ∀ s ∈ r, s.length ≤ x.1.length) := by
 unfold strings_Split ifB
 rw [decide_eq_true h]
 refine ub_.2 ⟨?_, ?_⟩
 · rw [List.length_map]
   have h1 := Lib.splitB_length_le ⟨x.2.toArray⟩ 0 (Lib.countB ⟨x.1.toArray⟩ ⟨x.2.toArray⟩) ⟨x.1.toArray⟩
   have h2 : Lib.countB ⟨x.1.toArray⟩ ⟨x.2.toArray⟩ ≤ x.1.length + 1 := Lib.count_le x.1 x.2
   omega
 · intro s hs
   obtain ⟨b, hb, rfl⟩ := List.mem_map.1 hs
   have : ∀ (k : Nat) (s : ByteArray), ∀ y ∈ Lib.splitB ⟨x.2.toArray⟩ 0 k s, y.size ≤ s.size := by
    intro k
    induction k with
    | zero => intro s y hy; rw [Lib.splitB_zero, List.mem_singleton] at hy; subst hy; exact Nat.le_refl _
    | succ k ih =>
      intro s y hy
      unfold Lib.splitB at hy
      split at hy
      · rw [List.mem_singleton] at hy; subst hy; exact Nat.le_refl _
      · rcases List.mem_cons.1 hy with rfl | hy
        · rw [ByteArray.size_extract]; omega
        · have := ih _ y hy
          rw [ByteArray.size_extract] at this; omega
   have := this _ _ b hb
   have e : (⟨x.1.toArray⟩ : ByteArray).size = x.1.length := rfl
   rw [e] at this; exact this
theorem un5_ (x : List Int) (h : True) : Tot (ugv_ x) (fun r : List Int => r = x) := ub_.2 rfl
theorem ub6_ (x : List Int) (h : True) : Tot (ub2_ x) (fun r : Str => r.length = x.length) := ub_.2 (uh_ x)
theorem ubej_ (x : YY10 × YY12 × Bool) (h : x.1.1.length ≤ 1048576 ∧ 0 ≤ x.1.2.1 ∧ x.1.2.1 ≤ x.1.1.length ∧ (x.2.2 = true → x.1.2.1 < x.1.1.length) ∧ x.2.1.2.2.2.2.2.length ≤ 1048576) : Tot (unt_ x) (fun r : YY10 × YY12 => r.1.1 = x.1.1 ∧ x.1.2.1 ≤ r.1.2.1 ∧ r.1.2.1 ≤ x.1.1.length ∧ r.2.1 = x.2.1.1 ∧ r.2.2.1 = x.2.1.2.1 ∧ r.2.2.2.1 = x.2.1.2.2.1 ∧ r.2.2.2.2.1 = x.2.1.2.2.2.1 ∧ r.2.2.2.2.2.1 = x.2.1.2.2.2.2.1 ∧ r.2.2.2.2.2.2.length ≤ 1099513724929) := by
 obtain ⟨r_0, p_3, t97⟩ := x
 try dsimp only at h ⊢
 unfold unt_
 repeat' first
  | with_reducible refine ug_.2 ⟨fun _ => ?_, fun _ => ?_⟩
  | with_reducible refine ua_.2 ?_
  | with_reducible refine ub_.2 ?_
  | with_reducible refine (u0n_ _ ?_).mono fun _ _ => ?_
  | with_reducible refine (uk3_ _ ?_).mono fun _ _ => ?_
  | dsimp only
 all_goals grind [un_, uh_, ud_, uy_, up_, u4_, u3_, u8le, uj_, uf_, ucbo_]
theorem ubo6_ (x : Unit) (h : True) : Tot (ubm8_ x) (fun r => r.length = 5 ∧ ∀ z ∈ r, z.1.length ≤ 20) := ⟨_, rfl, rfl, by decide⟩
theorem ubtg_ (x : Str × (List YY24) × Int) (h : 0 ≤ x.2.2 ∧ x.2.2 ≤ (5 : Int) ∧ x.2.1.length = (5 : Int) ∧ (5 : Int) ≤ 281474976710656 ∧ ∀ z ∈ x.2.1, z.1.length ≤ 20) : Tot (ubew_ x) (fun r : Sum (Unit) (Int) => match r with | .inl _ => True | .inr r => 0 ≤ r ∧ r < 5 ∧ x.1.length ≤ 20) := by
 refine uv_ (R := fun r : Sum (Unit) (Int) => match r with | .inl _ => True | .inr r => 0 ≤ r ∧ r < 5 ∧ x.1.length ≤ 20) (fun y : Str × (List YY24) × Int => (0 ≤ y.2.2 ∧ y.2.2 ≤ (5 : Int) ∧ y.2.1.length = (5 : Int) ∧ (5 : Int) ≤ 281474976710656 ∧ ∀ z ∈ y.2.1, z.1.length ≤ 20) ∧ y.1 = x.1) (fun y : Str × (List YY24) × Int => ((5 : Int) - y.2.2).toNat) ?_ _ _ (by grind) (by unfold fuel; grind)
 rintro next ⟨kind_0, t5, t6⟩ h hn
 try dsimp only at h hn
 unfold ubrr_
 repeat' first
  | with_reducible refine ug_.2 ⟨fun _ => ?_, fun _ => ?_⟩
  | with_reducible refine ua_.2 ?_
  | with_reducible refine ub_.2 ?_
  | with_reducible refine u8_.2 ⟨?_, fun _ _ => ?_⟩
  | with_reducible refine hn _ ?_ ?_
  | dsimp only
 all_goals grind [un_, uh_, ud_, uy_, up_, u4_, u3_, u8le, uj_, uf_]
theorem ubzj_ (x : Str) (h : True) : Tot (ubm9_ x) (fun r : Int => r < 5 ∧ (0 ≤ r → x.length ≤ 20)) := by
 unfold ubm9_
 repeat' first
  | with_reducible refine ua_.2 ?_
  | with_reducible refine ub_.2 ?_
  | with_reducible refine (ubo6_ _ ?_).mono fun _ _ => ?_
  | with_reducible refine (ubtg_ _ ?_).mono fun _ _ => ?_
  | split
  | dsimp only
 all_goals grind [un_, uh_, ud_, uy_, up_, u4_, u3_, u8le, uj_, uf_]
theorem ubr6_ (x : Str) (h : True) : Tot (ubna_ x) (fun r : YY24 × Int => r.2 = 0 → x.length ≤ 20) := by
 unfold ubna_
 repeat' first
  | with_reducible refine ug_.2 ⟨fun _ => ?_, fun _ => ?_⟩
  | with_reducible refine ua_.2 ?_
  | with_reducible refine ub_.2 ?_
  | with_reducible refine u8_.2 ⟨?_, fun _ _ => ?_⟩
  | with_reducible refine (ubzj_ _ ?_).mono fun _ _ => ?_
  | with_reducible refine (ubo6_ _ ?_).mono fun _ _ => ?_
  | dsimp only
 all_goals grind [un_, uh_, ud_, uy_, up_, u4_, u3_, u8le, uj_, uf_]
theorem ubv1_ (x : (List Str) × Int × Int) (h : 0 ≤ x.2.2 ∧ x.2.2 ≤ x.2.1 ∧ x.2.1 = x.1.length ∧ x.2.1 ≤ 281474976710656) : Tot (ubk1_ x) (fun r : Sum (Unit) (Bool) => match r with | .inl _ => (∀ j : Nat, x.2.2 ≤ j → ∀ s, x.1[j]? = some s → s.length ≤ 200) | .inr r => r = true) := by
 refine uv_ (R := fun r : Sum (Unit) (Bool) => match r with | .inl _ => (∀ j : Nat, x.2.2 ≤ j → ∀ s, x.1[j]? = some s → s.length ≤ 200) | .inr r => r = true) (fun y : (List Str) × Int × Int => (0 ≤ y.2.2 ∧ y.2.2 ≤ y.2.1 ∧ y.2.1 = y.1.length ∧ y.2.1 ≤ 281474976710656) ∧ y.1 = x.1 ∧ (∀ j : Nat, x.2.2 ≤ j → (j : Int) < y.2.2 → ∀ s, y.1[j]? = some s → s.length ≤ 200) ∧ x.2.2 ≤ y.2.2) (fun y : (List Str) × Int × Int => (y.2.1 - y.2.2).toNat) ?_ _ _ (by grind) (by unfold fuel; grind)
 rintro next ⟨t15, t16, t17⟩ h hn
 try dsimp only at h hn
 unfold ubuh_
 repeat' first
  | with_reducible refine ug_.2 ⟨fun _ => ?_, fun _ => ?_⟩
  | with_reducible refine ua_.2 ?_
  | with_reducible refine ub_.2 ?_
  | with_reducible refine u8_.2 ⟨?_, fun _ _ => ?_⟩
  | with_reducible refine hn _ ?_ ?_
  | dsimp only
 all_goals grind [un_, uh_, ud_, uy_, up_, u4_, u3_, u8le, uj_, uf_]
end Go.Ev.Pv
namespace Go.Ev.Pv
theorem ub01_ {α : Type} {l : List α} {P : α → Prop} (h : ∀ j : Nat, (0 : Int) ≤ j → ∀ s, l[j]? = some s → P s) : ∀ s ∈ l, P s := fun s hs => let ⟨j, hj⟩ := List.getElem?_of_mem hs; h j (Int.natCast_nonneg j) s hj
theorem ubv2_ (x : YY6 × Int × Int) (h : 0 ≤ x.2.2 ∧ x.2.2 ≤ x.2.1 ∧ x.2.1 = x.1.length ∧ x.2.1 ≤ 281474976710656) : Tot (ubk2_ x) (fun r : Sum (Unit) (Bool) => match r with | .inl _ => (∀ j : Nat, x.2.2 ≤ j → ∀ s, x.1[j]? = some s → s.1.length ≤ 200 ∧ s.2.length ≤ 200) | .inr r => r = true) := by
 refine uv_ (R := fun r : Sum (Unit) (Bool) => match r with | .inl _ => (∀ j : Nat, x.2.2 ≤ j → ∀ s, x.1[j]? = some s → s.1.length ≤ 200 ∧ s.2.length ≤ 200) | .inr r => r = true) (fun y : YY6 × Int × Int => (0 ≤ y.2.2 ∧ y.2.2 ≤ y.2.1 ∧ y.2.1 = y.1.length ∧ y.2.1 ≤ 281474976710656) ∧ y.1 = x.1 ∧ (∀ j : Nat, x.2.2 ≤ j → (j : Int) < y.2.2 → ∀ s, y.1[j]? = some s → s.1.length ≤ 200 ∧ s.2.length ≤ 200) ∧ x.2.2 ≤ y.2.2) (fun y : YY6 × Int × Int => (y.2.1 - y.2.2).toNat) ?_ _ _ (by grind) (by unfold fuel; grind)
 rintro next ⟨t26, t27, t28⟩ h hn
 try dsimp only at h hn
 unfold ubui_
 repeat' first
  | with_reducible refine ug_.2 ⟨fun _ => ?_, fun _ => ?_⟩
  | with_reducible refine ua_.2 ?_
  | with_reducible refine ub_.2 ?_
  | with_reducible refine u8_.2 ⟨?_, fun _ _ => ?_⟩
  | with_reducible refine hn _ ?_ ?_
  | dsimp only
 all_goals grind [un_, uh_, ud_, uy_, up_, u4_, u3_, u8le, uj_, uf_]
theorem ub02_ (x : Str × Str × Str × Str × YY6 × Str) (h : x.2.2.2.2.1.length ≤ 1048576) : Tot (ubtp_ x) (fun r : Bool => r = false → (x.2.1.length ≤ 200 ∧ x.2.2.1.length ≤ 200 ∧ x.2.2.2.1.length ≤ 200 ∧ x.2.2.2.2.2.length ≤ 200 ∧ x.2.2.2.2.1.length ≤ 10 ∧ ∀ q ∈ x.2.2.2.2.1, q.1.length ≤ 200 ∧ q.2.length ≤ 200)) := by
 unfold ubtp_
 dsimp only
 refine ua_.2 ((ubv1_ _ (by simp)).mono fun r hr => ?_)
 rcases r with r | r
 · have hr := ub01_ hr
   refine ua_.2 ((ubv2_ _ (by dsimp only; omega)).mono fun r2 hr2 => ?_)
   rcases r2 with r2 | r2
   · have hr2 := ub01_ hr2
     refine ub_.2 fun he => ?_
     have he := of_decide_eq_false he
     refine ⟨hr _ (by simp), hr _ (by simp), hr _ (by simp), hr _ (by simp), by omega, hr2⟩
   · have hr2 : r2 = true := hr2
     subst hr2
     exact ub_.2 fun he => by cases he
 · have hr : r = true := hr
   subst hr
   exact ub_.2 fun he => by cases he
theorem uzj_ (x : Str) (h : x.length < 4294967281) : Tot (usw_ x) (fun r : List Str => r.length ≤ x.length + 2 ∧ ∀ s ∈ r, s.length ≤ x.length) := by
 unfold usw_
 repeat' first
  | with_reducible refine ug_.2 ⟨fun _ => ?_, fun _ => ?_⟩
  | with_reducible refine ua_.2 ?_
  | with_reducible refine ub_.2 ?_
  | with_reducible refine (ubc2_ _ ?_).mono fun _ _ => ?_
  | dsimp only
 all_goals grind [un_, uh_, ud_, uy_, up_, u4_, u3_, u8le, uj_, uf_]
theorem ubjm_ (x : Bool × (List Str) × Int × Int) (h : 0 ≤ x.2.2.2 ∧ x.2.2.2 ≤ x.2.2.1 ∧ x.2.2.1 = x.2.1.length ∧ x.2.2.1 ≤ 281474976710656) : Tot (uyz_ x) (fun r : Sum (Unit) (Bool) => True) := by
 refine uv_ (R := fun r : Sum (Unit) (Bool) => True) (fun y : Bool × (List Str) × Int × Int => (0 ≤ y.2.2.2 ∧ y.2.2.2 ≤ y.2.2.1 ∧ y.2.2.1 = y.2.1.length ∧ y.2.2.1 ≤ 281474976710656)) (fun y : Bool × (List Str) × Int × Int => (y.2.2.1 - y.2.2.2).toNat) ?_ _ _ (by grind) (by unfold fuel; grind)
 rintro next ⟨dots_1, t7, t8, t9⟩ h hn
 try dsimp only at h hn
 unfold ubb2_
 repeat' first
  | with_reducible refine ug_.2 ⟨fun _ => ?_, fun _ => ?_⟩
  | with_reducible refine ua_.2 ?_
  | with_reducible refine ub_.2 ?_
  | with_reducible refine u8_.2 ⟨?_, fun _ _ => ?_⟩
  | with_reducible refine hn _ ?_ ?_
  | dsimp only
 all_goals grind [un_, uh_, ud_, uy_, up_, u4_, u3_, u8le, uj_, uf_]
theorem u9a_ (x : (List Str) × Bool) (h : x.1.length ≤ 1048576) : Tot (utu_ x) (fun r : Bool => True) := by
 obtain ⟨l_0, dots_1⟩ := x
 try dsimp only at h ⊢
 unfold utu_
 repeat' first
  | with_reducible refine ua_.2 ?_
  | with_reducible refine ub_.2 ?_
  | with_reducible refine (ubjm_ _ ?_).mono fun _ _ => ?_
  | split
  | dsimp only
 all_goals grind [un_, uh_, ud_, uy_, up_, u4_, u3_, u8le, uj_, uf_]
theorem u9b_ (x : Str × Int × Int) (h : 0 ≤ x.2.2 ∧ x.2.2 ≤ x.2.1 ∧ x.2.1 = x.1.length ∧ x.2.1 ≤ 281474976710656) : Tot (up8_ x) (fun r : Sum (Unit) (Bool) => True) := by
 refine uv_ (R := fun r : Sum (Unit) (Bool) => True) (fun y : Str × Int × Int => (0 ≤ y.2.2 ∧ y.2.2 ≤ y.2.1 ∧ y.2.1 = y.1.length ∧ y.2.1 ≤ 281474976710656)) (fun y : Str × Int × Int => (y.2.1 - y.2.2).toNat) ?_ _ _ (by grind) (by unfold fuel; grind)
 rintro next ⟨s_0, t5, t6⟩ h hn
 try dsimp only at h hn
 unfold uzp_
 repeat' first
  | with_reducible refine ug_.2 ⟨fun _ => ?_, fun _ => ?_⟩
  | with_reducible refine ua_.2 ?_
  | with_reducible refine ub_.2 ?_
  | with_reducible refine u8_.2 ⟨?_, fun _ _ => ?_⟩
  | with_reducible refine (ubc1_ _ ?_).mono fun _ _ => ?_
  | with_reducible refine hn _ ?_ ?_
  | dsimp only
 all_goals grind [un_, uh_, ud_, uy_, up_, u4_, u3_, u8le, uj_, uf_]
theorem ubhg_ (x : Str) (h : x.length ≤ 1048576) : Tot (upc_ x) (fun r : Bool => True) := by
 unfold upc_
 repeat' first
  | with_reducible refine ua_.2 ?_
  | with_reducible refine ub_.2 ?_
  | with_reducible refine (u9b_ _ ?_).mono fun _ _ => ?_
  | split
  | dsimp only
 all_goals grind [un_, uh_, ud_, uy_, up_, u4_, u3_, u8le, uj_, uf_]
theorem u39_ (x : YY6 × YY6 × Int × Int)
 (h : 0 ≤ x.2.2.2 ∧ x.2.2.2 ≤ x.2.2.1 ∧ x.2.2.1 = x.2.1.length ∧ x.2.2.1 ≤ 281474976710656 ∧ x.1.length = x.2.1.length ∧ ∀ q ∈ x.2.1, q.1.length ≤ 1048576) : Tot (um4_ x) (fun r => True) := by
 refine uv_ (fun x : YY6 × YY6 × Int × Int => 0 ≤ x.2.2.2 ∧ x.2.2.2 ≤ x.2.2.1 ∧ x.2.2.1 = x.2.1.length ∧ x.2.2.1 ≤ 281474976710656 ∧ x.1.length = x.2.1.length ∧ ∀ q ∈ x.2.1, q.1.length ≤ 1048576)
  (fun x => (x.2.2.1 - x.2.2.2).toNat) ?_ _ _ h (by unfold fuel; omega)
 rintro next ⟨l_0, t5, t6, t7⟩ h hn
 dsimp only at h hn
 obtain ⟨h1, h2, h3, h4, h5, h6⟩ := h
 unfold uvp_
 dsimp only
 refine ug_.2 ⟨fun hc => ?_, fun _ => ub_.2 trivial⟩
 have hc := of_decide_eq_true hc
 refine ua_.2 (u8_.2 ⟨⟨by omega, by omega⟩, fun y hy => ?_⟩)
 refine ua_.2 ((ubhg_ _ (h6 _ (List.mem_of_getElem? hy))).mono fun r _ => ?_)
 refine ug_.2 ⟨fun _ => ub_.2 trivial, fun _ => ?_⟩
 refine ug_.2 ⟨fun _ => ub_.2 trivial, fun _ => ?_⟩
 refine ua_.2 (Tot.mono (P := fun _ => True) ?_ fun y3 _ => ?_)
 · refine ug_.2 ⟨fun hd => ?_, fun _ => ub_.2 trivial⟩
   have hd := of_decide_eq_true hd
   rw [ubm_ (by omega) (by omega)]
   exact u8_.2 ⟨⟨by omega, by omega⟩, fun _ _ => trivial⟩
 · refine ug_.2 ⟨fun _ => ub_.2 trivial, fun _ => ?_⟩
   rw [ubm_ (n := t7 + 1) (by omega) (by omega)]
   exact hn _ ⟨by dsimp only; omega, by dsimp only; omega, h3, h4, h5, h6⟩ (by dsimp only; omega)
theorem ubbq_ (x : List (Str × Str)) (h : x.length ≤ 1048576 ∧ ∀ q ∈ x, q.1.length ≤ 1048576) : Tot (uln_ x) (fun r : Int => True) := by
 unfold uln_
 repeat' first
  | with_reducible refine ua_.2 ?_
  | with_reducible refine ub_.2 ?_
  | with_reducible refine (u39_ _ ?_).mono fun _ _ => ?_
  | split
  | dsimp only
 all_goals grind [un_, uh_, ud_, uy_, up_, u4_, u3_, u8le, uj_, uf_]
theorem ubo7_ (x : Str × Int × Int) (h : 0 ≤ x.2.2 ∧ x.2.2 ≤ x.2.1 ∧ x.2.1 = x.1.length ∧ x.2.1 ≤ 281474976710656) : Tot (u57_ x) (fun r : Sum (Unit) (Bool) => True) := by
 refine uv_ (R := fun r : Sum (Unit) (Bool) => True) (fun y : Str × Int × Int => (0 ≤ y.2.2 ∧ y.2.2 ≤ y.2.1 ∧ y.2.1 = y.1.length ∧ y.2.1 ≤ 281474976710656)) (fun y : Str × Int × Int => (y.2.1 - y.2.2).toNat) ?_ _ _ (by grind) (by unfold fuel; grind)
 rintro next ⟨s_0, t5, t6⟩ h hn
 try dsimp only at h hn
 unfold ubj1_
 repeat' first
  | with_reducible refine ug_.2 ⟨fun _ => ?_, fun _ => ?_⟩
  | with_reducible refine ua_.2 ?_
  | with_reducible refine ub_.2 ?_
  | with_reducible refine u8_.2 ⟨?_, fun _ _ => ?_⟩
  | with_reducible refine hn _ ?_ ?_
  | dsimp only
 all_goals grind [un_, uh_, ud_, uy_, up_, u4_, u3_, u8le, uj_, uf_]
theorem ubhh_ (x : Str) (h : x.length ≤ 1048576) : Tot (u1g_ x) (fun r : Bool => True) := by
 unfold u1g_
 repeat' first
  | with_reducible refine ua_.2 ?_
  | with_reducible refine ub_.2 ?_
  | with_reducible refine (ubo7_ _ ?_).mono fun _ _ => ?_
  | split
  | dsimp only
 all_goals grind [un_, uh_, ud_, uy_, up_, u4_, u3_, u8le, uj_, uf_]
theorem ubth_ (x : (List Str) × Int × Int) (h : 0 ≤ x.2.2 ∧ x.2.2 ≤ x.2.1 ∧ x.2.1 = x.1.length ∧ x.2.1 ≤ 281474976710656 ∧ ∀ z ∈ x.1, z.length ≤ 1048576) : Tot (ubex_ x) (fun r : Sum (Unit) (Int) => ∀ z, r = .inr z → z = 8) := by
 refine uv_ (R := fun r : Sum (Unit) (Int) => ∀ z, r = .inr z → z = 8) (fun y : (List Str) × Int × Int => (0 ≤ y.2.2 ∧ y.2.2 ≤ y.2.1 ∧ y.2.1 = y.1.length ∧ y.2.1 ≤ 281474976710656 ∧ ∀ z ∈ y.1, z.length ≤ 1048576)) (fun y : (List Str) × Int × Int => (y.2.1 - y.2.2).toNat) ?_ _ _ (by grind) (by unfold fuel; grind)
 rintro next ⟨t75, t76, t77⟩ h hn
 try dsimp only at h hn
 unfold ubrs_
 repeat' first
  | with_reducible refine ug_.2 ⟨fun _ => ?_, fun _ => ?_⟩
  | with_reducible refine ua_.2 ?_
  | with_reducible refine ub_.2 ?_
  | with_reducible refine u8_.2 ⟨?_, fun _ _ => ?_⟩
  | with_reducible refine (ubhh_ _ ?_).mono fun _ _ => ?_
  | with_reducible refine hn _ ?_ ?_
  | dsimp only
 all_goals grind [un_, uh_, ud_, uy_, up_, u4_, u3_, u8le, uj_, uf_]
theorem ubrf_ (x : YY6 × Int × Int) (h : 0 ≤ x.2.2 ∧ x.2.2 ≤ x.2.1 ∧ x.2.1 = x.1.length ∧ x.2.1 ≤ 281474976710656 ∧ ∀ z ∈ x.1, z.2.length ≤ 1048576) : Tot (u9r_ x) (fun r : Sum (Unit) (Int) => ∀ z, r = .inr z → z = 8) := by
 refine uv_ (R := fun r : Sum (Unit) (Int) => ∀ z, r = .inr z → z = 8) (fun y : YY6 × Int × Int => (0 ≤ y.2.2 ∧ y.2.2 ≤ y.2.1 ∧ y.2.1 = y.1.length ∧ y.2.1 ≤ 281474976710656 ∧ ∀ z ∈ y.1, z.2.length ≤ 1048576)) (fun y : YY6 × Int × Int => (y.2.1 - y.2.2).toNat) ?_ _ _ (by grind) (by unfold fuel; grind)
 rintro next ⟨t85, t86, t87⟩ h hn
 try dsimp only at h hn
 unfold ubnb_
 repeat' first
  | with_reducible refine ug_.2 ⟨fun _ => ?_, fun _ => ?_⟩
  | with_reducible refine ua_.2 ?_
  | with_reducible refine ub_.2 ?_
  | with_reducible refine u8_.2 ⟨?_, fun _ _ => ?_⟩
  | with_reducible refine (ubhh_ _ ?_).mono fun _ _ => ?_
  | with_reducible refine hn _ ?_ ?_
  | dsimp only
 all_goals grind [un_, uh_, ud_, uy_, up_, u4_, u3_, u8le, uj_, uf_]
end Go.Ev.Pv
namespace Go.Ev.Pv
theorem ubkx_ (x : Int) (h : True) : Tot (u7k_ x) (fun r : Bool => True) := by
 unfold u7k_
 repeat' first
  | with_reducible refine ub_.2 ?_
  | dsimp only
 all_goals grind [un_, uh_, ud_, uy_, up_, u4_, u3_, u8le, uj_, uf_]
theorem udl_ (x : (List Int) × Int) (h : x.1.length ≤ 1048576000) : Tot (ubf_ x) (fun r : Unit × (List Int) => r.2.length = x.1.length + 1) := by
 obtain ⟨b_0, c_1⟩ := x
 try dsimp only at h ⊢
 unfold ubf_
 repeat' first
  | with_reducible refine ua_.2 ?_
  | with_reducible refine ub_.2 ?_
  | with_reducible refine ulj_.2 ⟨?_, ?_⟩
  | with_reducible refine (un5_ _ ?_).mono fun _ _ => ?_
  | dsimp only
 all_goals grind [un_, uh_, ud_, uy_, up_, u4_, u3_, u8le, uj_, uf_]
theorem ucl_ (x : (List Int) × Str) (h : x.1.length ≤ 1048576000 ∧ x.2.length ≤ 1048576000) : Tot (ubk_ x) (fun r : Int × Unit × (List Int) => r.2.2.length = x.1.length + x.2.length) := by
 obtain ⟨b_0, s_1⟩ := x
 try dsimp only at h ⊢
 unfold ubk_
 repeat' first
  | with_reducible refine ua_.2 ?_
  | with_reducible refine ub_.2 ?_
  | with_reducible refine ulj_.2 ⟨?_, ?_⟩
  | with_reducible refine (un5_ _ ?_).mono fun _ _ => ?_
  | dsimp only
 all_goals grind [un_, uh_, ud_, uy_, up_, u4_, u3_, u8le, uj_, uf_]
theorem ubrg_ (x : Str × (List Int) × Int × Int) (h : 0 ≤ x.2.2.2 ∧ x.2.2.2 ≤ x.2.2.1 ∧ x.2.2.1 = x.1.length ∧ x.2.1.length ≤ x.2.2.2 ∧ x.1.length ≤ 1048576) : Tot (u9s_ x) (fun r : List Int => r.length ≤ x.1.length) := by
 refine uv_ (R := fun r : List Int => r.length ≤ x.1.length) (fun y : Str × (List Int) × Int × Int => y.1 = x.1 ∧ 0 ≤ y.2.2.2 ∧ y.2.2.2 ≤ y.2.2.1 ∧ y.2.2.1 = y.1.length ∧ y.2.1.length ≤ y.2.2.2 ∧ y.1.length ≤ 1048576)
  (fun y => (y.2.2.1 - y.2.2.2).toNat) ?_ _ _ ⟨rfl, h⟩ (by unfold fuel; omega)
 rintro next ⟨s_0, b_3, t6, t7⟩ h hn
 dsimp only at h hn
 obtain ⟨h0, h1, h2, h3, h4, h5⟩ := h
 unfold ubnc_
 dsimp only
 refine ug_.2 ⟨fun hc => ?_, fun hc => ub_.2 ?_⟩
 · have hc := of_decide_eq_true hc
   have hw : IntKind.i64.wrap (t7 + 1) = t7 + 1 := ubm_ (by omega) (by omega)
   rw [hw]
   refine ua_.2 (u8_.2 ⟨⟨h1, by omega⟩, fun b _ => ?_⟩)
   refine ua_.2 ((ubkx_ _ trivial).mono fun r _ => ?_)
   refine ug_.2 ⟨fun _ => ?_, fun _ => ?_⟩
   · refine ua_.2 (u8_.2 ⟨⟨h1, by omega⟩, fun b2 _ => ?_⟩)
     refine ua_.2 ((udl_ _ (by dsimp only; omega)).mono fun r2 hr => ?_)
     dsimp only at hr
     exact hn _ ⟨h0, by dsimp only; omega, by dsimp only; omega, h3, by dsimp only; omega, h5⟩ (by dsimp only; omega)
   · refine ua_.2 (Tot.mono (P := fun _ => True) ?_ fun b5 _ => ?_)
     · refine ug_.2 ⟨fun hd => ?_, fun _ => ub_.2 trivial⟩
       have hd : t7 ≠ 0 := by
        rw [up_] at hd
        simpa using hd
       rw [ubm_ (by omega) (by omega)]
       exact u8_.2 ⟨⟨by omega, by omega⟩, fun _ _ => trivial⟩
     · refine ua_.2 (Tot.mono (P := fun _ => True) ?_ fun r6 _ => ?_)
       · exact ug_.2 ⟨fun _ => (ubkx_ _ trivial).mono fun _ _ => trivial, fun _ => ub_.2 trivial⟩
       · refine ug_.2 ⟨fun _ => ?_, fun _ => ?_⟩
         · refine ua_.2 ((udl_ _ (by dsimp only; omega)).mono fun r7 hr => ?_)
           dsimp only at hr
           exact hn _ ⟨h0, by dsimp only; omega, by dsimp only; omega, h3, by dsimp only; omega, h5⟩ (by dsimp only; omega)
         · exact hn _ ⟨h0, by dsimp only; omega, by dsimp only; omega, h3, by dsimp only; omega, h5⟩ (by dsimp only; omega)
 · have hc := of_decide_eq_false hc
   rw [← h0]; omega
theorem ubxi_ (x : Str) (h : x.length ≤ 1048576) : Tot (ubhw_ x) (fun r : Str => r.length ≤ x.length) := by
 unfold ubhw_
 repeat' first
  | with_reducible refine ua_.2 ?_
  | with_reducible refine ub_.2 ?_
  | with_reducible refine (ubrg_ _ ?_).mono fun _ _ => ?_
  | with_reducible refine (ub6_ _ ?_).mono fun _ _ => ?_
  | dsimp only
 all_goals grind [un_, uh_, ud_, uy_, up_, u4_, u3_, u8le, uj_, uf_]
theorem ubjn_ (x : YY15 × Bool) (h : x.1.2.1.length ≤ 1048576 ∧ x.1.2.2.1.length ≤ 1048576) : Tot (urn_ x) (fun r : Str × Str × Str × Str × YY6 × Str => r.1 = x.1.1 ∧ r.2.1.length = x.1.2.1.length ∧ r.2.2.1.length = x.1.2.2.1.length ∧ r.2.2.2 = x.1.2.2.2) := by
 obtain ⟨p_1, t12⟩ := x
 try dsimp only at h ⊢
 unfold urn_
 repeat' first
  | with_reducible refine ug_.2 ⟨fun _ => ?_, fun _ => ?_⟩
  | with_reducible refine ua_.2 ?_
  | with_reducible refine ub_.2 ?_
  | with_reducible refine (ubbm_ _ ?_).mono fun _ _ => ?_
  | dsimp only
 all_goals grind [un_, uh_, ud_, uy_, up_, u4_, u3_, u8le, uj_, uf_]
end Go.Ev.Pv
namespace Go.Ev.Pv
theorem app48 {α : Type} {a b : List α} {Q : List α → Prop} (h1 : a.length + b.length ≤ 1099511627776) (h2 : Q (a ++ b)) : Tot (app? 48 a b) Q := ulj_.2 ⟨by omega, h2⟩
theorem u9c_ (x : Str × Str × Str × Str × YY6 × Str) (h : x.1.length ≤ 20 ∧ x.2.1.length ≤ 200 ∧ x.2.2.1.length ≤ 200 ∧ x.2.2.2.1.length ≤ 200 ∧ x.2.2.2.2.2.length ≤ 200 ∧ x.2.2.2.2.1.length ≤ 10 ∧ (∀ q ∈ x.2.2.2.2.1, q.1.length ≤ 200 ∧ q.2.length ≤ 200)) : Tot (utv_ x) (fun r : Str × Str × Str × Str × YY6 × Str => r.1.length ≤ 20 ∧ r.2.1.length ≤ 200 ∧ r.2.2.1.length ≤ 200 ∧ r.2.2.2.1.length ≤ 200 ∧ r.2.2.2.2.2.length ≤ 200 ∧ r.2.2.2.2.1.length ≤ 10 ∧ (∀ q ∈ r.2.2.2.2.1, q.1.length ≤ 200 ∧ q.2.length ≤ 200)) := by
 obtain ⟨g1, g2, g3, g4, g5, g6, g7⟩ := h
 unfold utv_
 try dsimp only
 refine ua_.2 ((ubr6_ _ trivial).mono fun r1 _ => ?_)
 refine ua_.2 ((ubjn_ _ ⟨by dsimp only; omega, by dsimp only; omega⟩).mono fun r4 hr => ?_)
 try dsimp only at hr
 obtain ⟨e1, e2, e3, e4⟩ := hr
 have k1 : r4.1.length ≤ 20 := by rw [e1]; exact g1
 have k4 : r4.2.2.2.1.length ≤ 200 := by rw [e4]; exact g4
 have k5 : r4.2.2.2.2.1.length ≤ 10 := by rw [e4]; exact g6
 have k6 : r4.2.2.2.2.2.length ≤ 200 := by rw [e4]; exact g5
 have k7 : ∀ q ∈ r4.2.2.2.2.1, q.1.length ≤ 200 ∧ q.2.length ≤ 200 := by rw [e4]; exact g7
 refine ug_.2 ⟨fun _ => ?_, fun _ => ?_⟩
 · refine ua_.2 ((ubxi_ _ (by omega)).mono fun r5 h5 => ?_)
   refine ua_.2 (app48 (by simp; omega) ?_)
   exact ub_.2 ⟨k1, by dsimp only; omega, by dsimp only; omega, k4, k6, by simpa using k5, by simpa using k7⟩
 · refine ua_.2 (app48 (by simp; omega) ?_)
   exact ub_.2 ⟨k1, by dsimp only; omega, by dsimp only; omega, k4, k6, by simpa using k5, by simpa using k7⟩
theorem ubo8_ (x : Str × Str × Str × Str × YY6 × Str) (h : x.2.2.2.2.1.length ≤ 1048576) : Tot (ubey_ x) (fun r : Int => r = 0 → (x.1.length ≤ 20 ∧ x.2.1.length ≤ 200 ∧ x.2.2.1.length ≤ 200 ∧ x.2.2.2.1.length ≤ 200 ∧ x.2.2.2.2.2.length ≤ 200 ∧ x.2.2.2.2.1.length ≤ 10 ∧ (∀ q ∈ x.2.2.2.2.1, q.1.length ≤ 200 ∧ q.2.length ≤ 200))) := by
 unfold ubey_
 try dsimp only
 refine ua_.2 ((ubr6_ _ trivial).mono fun r1 h1 => ?_)
 refine ug_.2 ⟨fun hc => ub_.2 fun he => ?_, fun hc => ?_⟩
 · rw [up_, he] at hc; simp at hc
 have g1 : x.1.length ≤ 20 := h1 (by rw [up_] at hc; simpa using hc)
 refine ua_.2 ((ub02_ _ h).mono fun r2 h2 => ?_)
 refine ug_.2 ⟨fun _ => ub_.2 fun he => absurd he (by decide), fun hc2 => ?_⟩
 obtain ⟨a1, a2, a3, a4, a5, a6⟩ := h2 hc2
 refine ug_.2 ⟨fun _ => ub_.2 fun he => absurd he (by decide), fun _ => ?_⟩
 refine ua_.2 ((uzj_ _ (by omega)).mono fun r5 h5 => ?_)
 refine ua_.2 ((u9a_ _ (by (try dsimp only); omega)).mono fun r6 _ => ?_)
 refine ug_.2 ⟨fun _ => ub_.2 fun he => absurd he (by decide), fun _ => ?_⟩
 refine ua_.2 (Tot.mono (P := fun _ => True) (ug_.2 ⟨fun _ => (uhj_ _ (by (try dsimp only); omega)).mono fun _ _ => trivial, fun _ => ub_.2 trivial⟩) fun r7 _ => ?_)
 refine ug_.2 ⟨fun _ => ub_.2 fun he => absurd he (by decide), fun _ => ?_⟩
 refine ua_.2 ((ubbq_ _ ⟨by omega, fun q hq => by have := a6 q hq; omega⟩).mono fun r9 _ => ?_)
 refine ug_.2 ⟨fun hc => ub_.2 fun he => ?_, fun _ => ?_⟩
 · rw [up_, he] at hc; simp at hc
 refine ua_.2 ((uzj_ _ (by omega)).mono fun r10 h10 => ?_)
 refine ua_.2 ((u9a_ _ (by (try dsimp only); omega)).mono fun r11 _ => ?_)
 refine ug_.2 ⟨fun _ => ub_.2 fun he => absurd he (by decide), fun _ => ?_⟩
 refine ua_.2 ((ubth_ _ ⟨Int.le_refl _, by simp, rfl, by simp, fun z hz => ?_⟩).mono fun r15 h15 => ?_)
 · simp only [List.mem_cons, List.not_mem_nil, or_false] at hz
   rcases hz with rfl | rfl | rfl | rfl <;> omega
 rcases r15 with r15 | r15
 · refine ua_.2 ((ubrf_ _ ⟨Int.le_refl _, Int.natCast_nonneg _, rfl, (by show ((x.2.2.2.2.1.length : Nat) : Int) ≤ 281474976710656; omega), fun z hz => by have := a6 z hz; omega⟩).mono fun r19 h19 => ?_)
   rcases r19 with r19 | r19
   · exact ub_.2 fun _ => ⟨g1, a1, a2, a3, a4, a5, a6⟩
   · exact ub_.2 fun he => by have := h19 _ rfl; omega
 · exact ub_.2 fun he => by have := h15 _ rfl; omega
end Go.Ev.Pv
namespace Go.Ev.Pv
theorem ucbp_ {q : Int} {Q : Str → Prop} (l : Str) (hl : l.length = 16) (h0 : 0 ≤ q) (h1 : q ≤ 15) (h : ∀ s : Str, s.length = 1 → Q s) : Tot (cut? l q (IntKind.u8.wrap (q + 1))) Q := by
 rw [wrap8 (by omega) (by omega)]
 refine uo6_.2 ⟨⟨h0, by omega, by omega⟩, h _ ?_⟩
 rw [List.length_drop, List.length_take]
 omega
theorem ubo9_ (x : Str × (List Int) × Int × Int) (h : 0 ≤ x.2.2.2 ∧ x.2.2.2 ≤ x.2.2.1 ∧ x.2.2.1 = x.1.length ∧ x.2.1.length ≤ 3 * x.2.2.2 ∧ x.1.length ≤ 1048576) : Tot (u58_ x) (fun r : List Int => r.length ≤ 3 * x.1.length) := by
 refine uv_ (R := fun r : List Int => r.length ≤ 3 * x.1.length) (fun y : Str × (List Int) × Int × Int => y.1 = x.1 ∧ 0 ≤ y.2.2.2 ∧ y.2.2.2 ≤ y.2.2.1 ∧ y.2.2.1 = y.1.length ∧ y.2.1.length ≤ 3 * y.2.2.2 ∧ y.1.length ≤ 1048576)
  (fun y => (y.2.2.1 - y.2.2.2).toNat) ?_ _ _ ⟨rfl, h⟩ (by unfold fuel; omega)
 rintro next ⟨s_0, b_3, t7, t8⟩ h hn
 dsimp only at h hn
 obtain ⟨h0, h1, h2, h3, h4, h5⟩ := h
 unfold ubj2_
 dsimp only
 refine ug_.2 ⟨fun hc => ?_, fun hc => ub_.2 ?_⟩
 · have hc := of_decide_eq_true hc
   have hw : IntKind.i64.wrap (t8 + 1) = t8 + 1 := ubm_ (by omega) (by omega)
   rw [hw]
   refine ua_.2 (u8_.2 ⟨⟨h1, by omega⟩, fun b _ => ?_⟩)
   refine ua_.2 ((ubc0_ _ trivial).mono fun r _ => ?_)
   refine ua_.2 (Tot.mono (P := fun _ => True) (ug_.2 ⟨fun _ => (uhj_ _ (by show 4 ≤ 1048576; decide)).mono fun _ _ => trivial, fun _ => ub_.2 trivial⟩) fun r4 _ => ?_)
   refine ug_.2 ⟨fun _ => ?_, fun _ => ?_⟩
   · refine ua_.2 ((udl_ _ (by dsimp only; omega)).mono fun r5 hr => ?_)
     dsimp only at hr
     exact hn _ ⟨h0, by dsimp only; omega, by dsimp only; omega, h3, by dsimp only; omega, h5⟩ (by dsimp only; omega)
   · obtain ⟨d1, d2⟩ := u8div b
     obtain ⟨m1, m2⟩ := u8mod b
     have hq : IntKind.u8.wrap ((b.toNat : Int).tdiv 16) = (b.toNat : Int).tdiv 16 := wrap8 d1 (by omega)
     refine ua_.2 (div8.2 ⟨by decide, ?_⟩)
     refine ua_.2 (div8.2 ⟨by decide, ?_⟩)
     rw [hq]
     refine ua_.2 (ucbp_ _ rfl d1 d2 fun s8 e8 => ?_)
     refine ua_.2 (ueb_.2 ⟨by simp [e8], ?_⟩)
     refine ua_.2 (mod8.2 ⟨by decide, ?_⟩)
     refine ua_.2 (mod8.2 ⟨by decide, ?_⟩)
     refine ua_.2 (ucbp_ _ rfl m1 m2 fun s12 e12 => ?_)
     refine ua_.2 (ueb_.2 ⟨by simp [e8, e12], ?_⟩)
     have e13 : ([37] ++ s8 ++ s12 : Str).length = 3 := by simp [e8, e12]
     refine ua_.2 ((ucl_ _ ⟨by dsimp only; omega, by rw [e13]; decide⟩).mono fun r14 hr => ?_)
     rw [e13] at hr
     dsimp only at hr
     exact hn _ ⟨h0, by dsimp only; omega, by dsimp only; omega, h3, by dsimp only; omega, h5⟩ (by dsimp only; omega)
 · have hc := of_decide_eq_false hc
   rw [← h0]; omega
theorem u25_ (x : Str) (h : x.length ≤ 1048576) : Tot (uwq_ x) (fun r : Str => r.length ≤ 3 * x.length) := by
 unfold uwq_
 repeat' first
  | with_reducible refine ua_.2 ?_
  | with_reducible refine ub_.2 ?_
  | with_reducible refine (ubo9_ _ ?_).mono fun _ _ => ?_
  | with_reducible refine (ub6_ _ ?_).mono fun _ _ => ?_
  | dsimp only
 all_goals grind [un_, uh_, ud_, uy_, up_, u4_, u3_, u8le, uj_, uf_]
end Go.Ev.Pv
namespace Go.Ev.Pv
theorem ubv3_ (x : (List Str) × (List Str) × Int × Int) (h : 0 ≤ x.2.2.2 ∧ x.2.2.2 ≤ x.2.2.1 ∧ x.2.2.1 = x.2.1.length ∧ x.2.2.1 ≤ 202 ∧ x.1.length ≤ x.2.2.2 ∧ (∀ z ∈ x.2.1, z.length ≤ 200) ∧ (∀ z ∈ x.1, z.length ≤ 600)) :
 Tot (ubk4_ x) (fun r : List Str => r.length ≤ 202 ∧ ∀ z ∈ r, z.length ≤ 600) := by
 refine uv_ (R := fun r : List Str => r.length ≤ 202 ∧ ∀ z ∈ r, z.length ≤ 600) (fun x : (List Str) × (List Str) × Int × Int => 0 ≤ x.2.2.2 ∧ x.2.2.2 ≤ x.2.2.1 ∧ x.2.2.1 = x.2.1.length ∧ x.2.2.1 ≤ 202 ∧ x.1.length ≤ x.2.2.2 ∧ (∀ z ∈ x.2.1, z.length ≤ 200) ∧ (∀ z ∈ x.1, z.length ≤ 600))
  (fun y => (y.2.2.1 - y.2.2.2).toNat) ?_ _ _ h (by unfold fuel; omega)
 rintro next ⟨l_3, t7, t8, t9⟩ h hn
 dsimp only at h hn
 obtain ⟨h1, h2, h3, h4, h5, h6, h7⟩ := h
 unfold ubuk_
 dsimp only
 refine ug_.2 ⟨fun hc => ?_, fun hc => ub_.2 ⟨by omega, h7⟩⟩
 have hc := of_decide_eq_true hc
 have hw : IntKind.i64.wrap (t9 + 1) = t9 + 1 := ubm_ (by omega) (by omega)
 rw [hw]
 refine ua_.2 (u8_.2 ⟨⟨h1, by omega⟩, fun y2 hy => ?_⟩)
 have hy := h6 _ (List.mem_of_getElem? hy)
 refine ua_.2 ((u25_ _ (by omega)).mono fun r3 hr => ?_)
 refine ua_.2 (ulj_.2 ⟨by simp; omega, ?_⟩)
 refine hn _ ⟨by dsimp only; omega, by dsimp only; omega, h3, h4, by simp; omega, h6, fun z hz => ?_⟩ (by dsimp only; omega)
 rcases List.mem_append.1 hz with hz | hz
 · exact h7 z hz
 · rw [List.mem_singleton] at hz; subst hz; omega
theorem ub03_ (x : Str) (h : x.length ≤ 200) : Tot (ubtr_ x) (fun r : Str => r.length ≤ 121402) := by
 unfold ubtr_
 refine ua_.2 ((uzj_ _ (by omega)).mono fun r1 h1 => ?_)
 refine ua_.2 ((ubv3_ _ ⟨Int.le_refl _, Int.natCast_nonneg _, rfl, (by show ((r1.length : Nat) : Int) ≤ 202; omega), (by simp), (fun z hz => by have := h1.2 z hz; omega), (fun z hz => by cases hz)⟩).mono fun r5 h5 => ?_)
 have hj := ub2l_ [47] 600 r5 h5.2
 have hm : r5.length * (600 + [(47 : UInt8)].length) ≤ 202 * (600 + 1) := Nat.mul_le_mul h5.1 (Nat.le_refl _)
 refine ua_.2 ((uk3_ _ ⟨by have := h5.1; dsimp only; omega, by dsimp only; omega⟩).mono fun r6 h6 => ub_.2 ?_)
 rw [h6]; dsimp only; omega
theorem ubv4_ (x : Str × Str × Str × Str × YY6 × Str) (h : x.1.length ≤ 20 ∧ x.2.1.length ≤ 200 ∧ x.2.2.1.length ≤ 200 ∧ x.2.2.2.1.length ≤ 200 ∧ x.2.2.2.2.2.length ≤ 200 ∧ x.2.2.2.2.1.length ≤ 10 ∧ (∀ q ∈ x.2.2.2.2.1, q.1.length ≤ 200 ∧ q.2.length ≤ 200)) : Tot (u9t_ x) (fun r : Str => r.length ≤ 200000) := by
 obtain ⟨g1, g2, g3, g4, g5, g6, g7⟩ := h
 unfold u9t_
 refine ua_.2 (ueb_.2 ⟨by simp; omega, ?_⟩)
 refine ua_.2 (ueb_.2 ⟨by simp; omega, ?_⟩)
 refine ug_.2 ⟨fun _ => ?_, fun _ => ?_⟩
 · refine ua_.2 ((ub03_ _ g2).mono fun r3 h3 => ?_)
   refine ua_.2 (ueb_.2 ⟨by simp; omega, ?_⟩)
   refine ua_.2 (ueb_.2 ⟨by simp; omega, ?_⟩)
   refine ua_.2 ((u25_ _ (by omega)).mono fun r6 h6 => ?_)
   refine ua_.2 (ueb_.2 ⟨by simp; omega, ?_⟩)
   exact ub_.2 (by simp; omega)
 · refine ua_.2 ((u25_ _ (by omega)).mono fun r6 h6 => ?_)
   refine ua_.2 (ueb_.2 ⟨by simp; omega, ?_⟩)
   exact ub_.2 (by simp; omega)
theorem ub2n_ (x : Str × Str × Str × Str × YY6 × Str) (h : x.2.2.2.2.1.length ≤ 1048576) : Tot (ubyu_ x) (fun r : Str × Int => r.1.length ≤ 200000) := by
 unfold ubyu_
 refine ua_.2 ((ubo8_ _ h).mono fun r1 h1 => ?_)
 refine ug_.2 ⟨fun _ => ub_.2 (by simp), fun hc => ?_⟩
 have h1 := h1 (by rw [up_] at hc; simpa using hc)
 refine ua_.2 ((u9c_ _ h1).mono fun r2 h2 => ?_)
 exact ua_.2 ((ubv4_ _ h2).mono fun r3 h3 => ub_.2 h3)
end Go.Ev.Pv
namespace Go.Ev.Pv
theorem umw_ (x : YY6 × Int × YY14 × Int) (h : (∀ p, Tot (x.2.2.1 p) fun _ => True) ∧ 0 ≤ x.2.1 ∧ x.2.1 ≤ x.2.2.2 ∧ x.2.2.2 < x.1.length ∧ x.1.length ≤ 1048576) :
 Tot (ud3_ x) (fun r : List (Str × Str) => r.length = x.1.length ∧ ∀ q ∈ r, q ∈ x.1) := by
 refine uv_ (R := fun r : List (Str × Str) => r.length = x.1.length ∧ ∀ q ∈ r, q ∈ x.1) (fun y : YY6 × Int × YY14 × Int => (∀ p, Tot (y.2.2.1 p) fun _ => True) ∧ 0 ≤ y.2.1 ∧ y.2.1 ≤ y.2.2.2 ∧ y.2.2.2 < y.1.length ∧ y.1.length ≤ 1048576 ∧ y.1.length = x.1.length ∧ ∀ q ∈ y.1, q ∈ x.1)
  (fun y => y.2.2.2.toNat) ?_ _ _ ⟨h.1, h.2.1, h.2.2.1, h.2.2.2.1, h.2.2.2.2, rfl, fun q hq => hq⟩ (by obtain ⟨_, _, _, _, _⟩ := h; unfold fuel; omega)
 rintro next ⟨data_0, a_1, cmp_3, j_9⟩ h hn
 dsimp only at h hn
 obtain ⟨h0, h1, h2, h3, h4, h5, h6⟩ := h
 unfold ugw_
 dsimp only
 by_cases hc : a_1 < j_9
 · have hw : IntKind.i64.wrap (j_9 - 1) = j_9 - 1 := ubm_ (by omega) (by omega)
   simp only [hw, decide_eq_true hc, cond_true, Bool.true_and]
   refine ua_.2 (uft_.2 ⟨⟨by omega, by omega⟩, ?_⟩)
   refine ua_.2 (uft_.2 ⟨⟨by omega, by omega⟩, ?_⟩)
   refine ua_.2 ((h0 _).mono fun r3 _ => ?_)
   refine ug_.2 ⟨fun _ => ?_, fun _ => ub_.2 ⟨h5, h6⟩⟩
   refine ua_.2 (uft_.2 ⟨⟨by omega, by omega⟩, ?_⟩)
   refine ua_.2 (uft_.2 ⟨⟨by omega, by omega⟩, ?_⟩)
   refine ua_.2 (uft_.2 ⟨⟨by omega, by omega⟩, ?_⟩)
   refine ua_.2 (uft_.2 ⟨⟨by omega, by rw [List.length_set]; omega⟩, ?_⟩)
   refine hn _ ⟨h0, h1, by dsimp only; omega, by simp only [List.length_set]; omega, by simp only [List.length_set]; omega, by simp only [List.length_set]; omega, fun q hq => ?_⟩ (by dsimp only; omega)
   rcases uf_ hq with hq | rfl
   · rcases uf_ hq with hq | rfl
     · exact h6 q hq
     · exact h6 _ (uj_ (by omega))
   · exact h6 _ (uj_ (by omega))
 · simp only [decide_eq_false hc, cond_false, Bool.false_and]
   refine ua_.2 (ub_.2 ?_)
   refine ua_.2 (ub_.2 ?_)
   refine ua_.2 (ub_.2 ?_)
   exact ub_.2 ⟨h5, h6⟩
theorem umx_ (x : YY6 × Int × Int × YY14 × Int) (h : (∀ p, Tot (x.2.2.2.1 p) fun _ => True) ∧ 0 ≤ x.2.1 ∧ x.2.1 ≤ x.2.2.2.2 ∧ x.2.2.1 ≤ x.1.length ∧ x.2.2.2.2 ≤ 1048577 ∧ x.1.length ≤ 1048576) :
 Tot (ud4_ x) (fun r : List (Str × Str) => r.length = x.1.length ∧ ∀ q ∈ r, q ∈ x.1) := by
 refine uv_ (R := fun r : List (Str × Str) => r.length = x.1.length ∧ ∀ q ∈ r, q ∈ x.1) (fun y : YY6 × Int × Int × YY14 × Int => (∀ p, Tot (y.2.2.2.1 p) fun _ => True) ∧ 0 ≤ y.2.1 ∧ y.2.1 ≤ y.2.2.2.2 ∧ y.2.2.1 ≤ y.1.length ∧ y.2.2.2.2 ≤ 1048577 ∧ y.1.length ≤ 1048576 ∧ y.1.length = x.1.length ∧ ∀ q ∈ y.1, q ∈ x.1)
  (fun y => (y.2.2.1 - y.2.2.2.2).toNat) ?_ _ _ ⟨h.1, h.2.1, h.2.2.1, h.2.2.2.1, h.2.2.2.2.1, h.2.2.2.2.2, rfl, fun q hq => hq⟩ (by obtain ⟨_, _, _, _, _, _⟩ := h; unfold fuel; omega)
 rintro next ⟨data_0, a_1, b_2, cmp_3, i_8⟩ h hn
 dsimp only at h hn
 obtain ⟨h0, h1, h2, h3, h4, h5, h6, h7⟩ := h
 unfold ugx_
 dsimp only
 refine ug_.2 ⟨fun hc => ?_, fun _ => ub_.2 ⟨h6, h7⟩⟩
 have hc := of_decide_eq_true hc
 have hw : IntKind.i64.wrap (i_8 + 1) = i_8 + 1 := ubm_ (by omega) (by omega)
 rw [hw]
 refine ua_.2 ((umw_ _ ⟨h0, h1, h2, by dsimp only; omega, h5⟩).mono fun r hr => ?_)
 dsimp only at hr
 obtain ⟨e1, e2⟩ := hr
 exact hn _ ⟨h0, h1, by dsimp only; omega, by dsimp only; omega, by dsimp only; omega, by dsimp only; omega, by dsimp only; omega, fun q hq => h7 q (e2 q hq)⟩ (by dsimp only; omega)
theorem ugt_ (x : YY6 × Int × Int × YY14) (h : (∀ p, Tot (x.2.2.2 p) fun _ => True) ∧ 0 ≤ x.2.1 ∧ x.2.1 ≤ 1048576 ∧ x.2.2.1 ≤ x.1.length ∧ x.1.length ≤ 1048576) :
 Tot (ubo_ x) (fun r : List (Str × Str) => r.length = x.1.length ∧ ∀ q ∈ r, q ∈ x.1) := by
 obtain ⟨data_0, a_1, b_2, cmp_3⟩ := x
 dsimp only at h
 obtain ⟨h0, h1, h2, h3, h4⟩ := h
 unfold ubo_
 dsimp only
 rw [ubm_ (by omega) (by omega)]
 exact ua_.2 ((umx_ _ ⟨h0, h1, by dsimp only; omega, h3, by dsimp only; omega, h4⟩).mono fun r hr => ub_.2 hr)
theorem upy_ (x : YY6 × Int × Int × Int × Int) (h : 0 ≤ x.2.1 ∧ 0 ≤ x.2.2.1 ∧ x.2.1 + x.2.2.2.1 ≤ x.1.length ∧ x.2.2.1 + x.2.2.2.1 ≤ x.1.length ∧ 0 ≤ x.2.2.2.2 ∧ x.1.length ≤ 1048576) :
 Tot (ue2_ x) (fun r : List (Str × Str) => r.length = x.1.length ∧ ∀ q ∈ r, q ∈ x.1) := by
 refine uv_ (R := fun r : List (Str × Str) => r.length = x.1.length ∧ ∀ q ∈ r, q ∈ x.1) (fun y : YY6 × Int × Int × Int × Int => 0 ≤ y.2.1 ∧ 0 ≤ y.2.2.1 ∧ y.2.1 + y.2.2.2.1 ≤ y.1.length ∧ y.2.2.1 + y.2.2.2.1 ≤ y.1.length ∧ 0 ≤ y.2.2.2.2 ∧ y.1.length ≤ 1048576 ∧ y.1.length = x.1.length ∧ ∀ q ∈ y.1, q ∈ x.1)
  (fun y => (y.2.2.2.1 - y.2.2.2.2).toNat) ?_ _ _ ⟨h.1, h.2.1, h.2.2.1, h.2.2.2.1, h.2.2.2.2.1, h.2.2.2.2.2, rfl, fun q hq => hq⟩ (by obtain ⟨_, _, _, _, _, _⟩ := h; unfold fuel; omega)
 rintro next ⟨data_0, a_1, b_2, n_3, i_10⟩ h hn
 dsimp only at h hn
 obtain ⟨h1, h2, h3, h4, h5, h6, h7, h8⟩ := h
 unfold uie_
 dsimp only
 refine ug_.2 ⟨fun hc => ?_, fun _ => ub_.2 ⟨h7, h8⟩⟩
 have hc := of_decide_eq_true hc
 have hw1 : IntKind.i64.wrap (a_1 + i_10) = a_1 + i_10 := ubm_ (by omega) (by omega)
 have hw2 : IntKind.i64.wrap (b_2 + i_10) = b_2 + i_10 := ubm_ (by omega) (by omega)
 have hw3 : IntKind.i64.wrap (i_10 + 1) = i_10 + 1 := ubm_ (by omega) (by omega)
 rw [hw1, hw2, hw3]
 refine ua_.2 (uft_.2 ⟨⟨by omega, by omega⟩, ?_⟩)
 refine ua_.2 (uft_.2 ⟨⟨by omega, by omega⟩, ?_⟩)
 refine ua_.2 (uft_.2 ⟨⟨by omega, by omega⟩, ?_⟩)
 refine ua_.2 (uft_.2 ⟨⟨by omega, by rw [List.length_set]; omega⟩, ?_⟩)
 refine hn _ ⟨h1, h2, by simp only [List.length_set]; omega, by simp only [List.length_set]; omega, by dsimp only; omega, by simp only [List.length_set]; omega, by simp only [List.length_set]; omega, fun q hq => ?_⟩ (by dsimp only; omega)
 rcases uf_ hq with hq | rfl
 · rcases uf_ hq with hq | rfl
   · exact h8 q hq
   · exact h8 _ (uj_ (by omega))
 · exact h8 _ (uj_ (by omega))
end Go.Ev.Pv
namespace Go.Ev.Pv
theorem ues_ (x : YY6 × Int × Int × Int × YY14) (h : 0 ≤ x.2.1 ∧ 0 ≤ x.2.2.1 ∧ x.2.1 + x.2.2.2.1 ≤ x.1.length ∧ x.2.2.1 + x.2.2.2.1 ≤ x.1.length ∧ x.1.length ≤ 1048576) :
 Tot (ubn_ x) (fun r : List (Str × Str) => r.length = x.1.length ∧ ∀ q ∈ r, q ∈ x.1) := by
 obtain ⟨data_0, a_1, b_2, n_3, cmp_4⟩ := x
 obtain ⟨h1, h2, h3, h4, h5⟩ := h
 unfold ubn_
 dsimp only
 exact ua_.2 ((upy_ _ ⟨h1, h2, h3, h4, Int.le_refl _, h5⟩).mono fun r hr => ub_.2 hr)
theorem usr_ (x : YY6 × Int × YY14 × Int × Int) (h : 0 < x.2.2.2.1 ∧ 0 < x.2.2.2.2 ∧ x.2.2.2.1 ≤ x.2.1 ∧ x.2.1 + x.2.2.2.2 ≤ x.1.length ∧ x.1.length ≤ 1048576) :
 Tot (uf2_ x) (fun r : YY6 × Int => r.1.length = x.1.length ∧ (∀ q ∈ r.1, q ∈ x.1) ∧ 0 < r.2 ∧ r.2 ≤ x.2.1 ∧ x.2.1 + r.2 ≤ x.1.length) := by
 refine uv_ (R := fun r : YY6 × Int => r.1.length = x.1.length ∧ (∀ q ∈ r.1, q ∈ x.1) ∧ 0 < r.2 ∧ r.2 ≤ x.2.1 ∧ x.2.1 + r.2 ≤ x.1.length) (fun y : YY6 × Int × YY14 × Int × Int => 0 < y.2.2.2.1 ∧ 0 < y.2.2.2.2 ∧ y.2.2.2.1 ≤ y.2.1 ∧ y.2.1 + y.2.2.2.2 ≤ y.1.length ∧ y.1.length ≤ 1048576 ∧ y.1.length = x.1.length ∧ (∀ q ∈ y.1, q ∈ x.1) ∧ y.2.1 = x.2.1)
  (fun y => (y.2.2.2.1 + y.2.2.2.2).toNat) ?_ _ _ ⟨h.1, h.2.1, h.2.2.1, h.2.2.2.1, h.2.2.2.2, rfl, (fun q hq => hq), rfl⟩ (by obtain ⟨_, _, _, _, _⟩ := h; unfold fuel; omega)
 rintro next ⟨data_0, m_2, cmp_4, i_10, j_11⟩ h hn
 dsimp only at h hn
 obtain ⟨h1, h2, h3, h4, h5, h6, h7, h8⟩ := h
 unfold uka_
 dsimp only
 refine ug_.2 ⟨fun hc => ?_, fun hc => ub_.2 ⟨h6, h7, h1, by dsimp only; omega, ?_⟩⟩
 · have hc : i_10 ≠ j_11 := by rw [up_] at hc; simpa using hc
   have hw1 : IntKind.i64.wrap (m_2 - i_10) = m_2 - i_10 := ubm_ (by omega) (by omega)
   have hw2 : IntKind.i64.wrap (m_2 + j_11) = m_2 + j_11 := ubm_ (by omega) (by omega)
   have hw3 : IntKind.i64.wrap (m_2 + j_11 - i_10) = m_2 + j_11 - i_10 := ubm_ (by omega) (by omega)
   have hw4 : IntKind.i64.wrap (i_10 - j_11) = i_10 - j_11 := ubm_ (by omega) (by omega)
   have hw5 : IntKind.i64.wrap (j_11 - i_10) = j_11 - i_10 := ubm_ (by omega) (by omega)
   rw [hw1, hw2, hw3, hw4, hw5]
   refine ug_.2 ⟨fun hd => ?_, fun hd => ?_⟩
   · have hd := of_decide_eq_true hd
     refine ua_.2 ((ues_ _ ⟨by dsimp only; omega, by dsimp only; omega, by dsimp only; omega, by dsimp only; omega, h5⟩).mono fun r hr => ?_)
     dsimp only at hr
     exact hn _ ⟨by dsimp only; omega, h2, by dsimp only; omega, by dsimp only; omega, by dsimp only; omega, by dsimp only; omega, fun q hq => h7 q (hr.2 q hq), h8⟩ (by dsimp only; omega)
   · have hd := of_decide_eq_false hd
     refine ua_.2 ((ues_ _ ⟨by dsimp only; omega, by dsimp only; omega, by dsimp only; omega, by dsimp only; omega, h5⟩).mono fun r hr => ?_)
     dsimp only at hr
     exact hn _ ⟨h1, by dsimp only; omega, h3, by dsimp only; omega, by dsimp only; omega, by dsimp only; omega, fun q hq => h7 q (hr.2 q hq), h8⟩ (by dsimp only; omega)
 · have hc : i_10 = j_11 := by rw [up_] at hc; simpa using hc
   omega
theorem uvm_ (x : YY6 × Int × Int × Int × YY14) (h : 0 ≤ x.2.1 ∧ x.2.1 < x.2.2.1 ∧ x.2.2.1 < x.2.2.2.1 ∧ x.2.2.2.1 ≤ x.1.length ∧ x.1.length ≤ 1048576) :
 Tot (ue0_ x) (fun r : List (Str × Str) => r.length = x.1.length ∧ ∀ q ∈ r, q ∈ x.1) := by
 obtain ⟨data_0, a_1, m_2, b_3, cmp_4⟩ := x
 dsimp only at h
 obtain ⟨h1, h2, h3, h4, h5⟩ := h
 unfold ue0_
 dsimp only
 rw [ubm_ (n := m_2 - a_1) (by omega) (by omega), ubm_ (n := b_3 - m_2) (by omega) (by omega)]
 refine ua_.2 ((usr_ _ ⟨by dsimp only; omega, by dsimp only; omega, by dsimp only; omega, by dsimp only; omega, h5⟩).mono fun r hr => ?_)
 dsimp only at hr
 obtain ⟨e1, e2, e3, e4, e5⟩ := hr
 rw [ubm_ (n := m_2 - r.2) (by omega) (by omega)]
 refine ua_.2 ((ues_ _ ⟨by dsimp only; omega, by dsimp only; omega, by dsimp only; omega, by dsimp only; omega, by dsimp only; omega⟩).mono fun r4 hr => ub_.2 ?_)
 dsimp only at hr
 exact ⟨by omega, fun q hq => e2 q (hr.2 q hq)⟩
end Go.Ev.Pv
namespace Go.Ev.Pv
theorem ubhi_ {i j : Int} {Q : Int → Prop} (h1 : 0 ≤ i) (h2 : 0 ≤ j) (h3 : i ≤ 4611686018427387903) (h4 : j ≤ 4611686018427387903) (h : Q ((i + j) / 2)) : Tot (shr? IntKind.u64 (IntKind.u64.wrap (IntKind.i64.wrap (i + j))) (1 : Int)) Q := by
 have e1 : IntKind.i64.wrap (i + j) = i + j := ubm_ (by omega) (by omega)
 have e2 : IntKind.u64.wrap (i + j) = i + j := by
  simp only [IntKind.wrap, IntKind.bits, IntKind.signed]
  simp
  omega
 rw [e1, e2]
 have e3 : (i + j).fdiv (2 ^ min (1 : Int).toNat IntKind.u64.bits) = (i + j) / 2 := by
  have : (2 : Int) ^ min (1 : Int).toNat IntKind.u64.bits = 2 := by decide
  rw [this, Int.fdiv_eq_ediv_of_nonneg _ (by decide)]
 unfold shr?
 rw [e3]
 exact ub_.2 h
theorem uqv_ (slf : YY6 × Int × Int × Int × YY14 → Option YY6) (x : YY6 × Int × YY14 × Int × Int) (h : (∀ p, Tot (x.2.2.1 p) fun _ => True) ∧ 0 ≤ x.2.1 ∧ x.2.1 < x.1.length ∧ 0 ≤ x.2.2.2.1 ∧ x.2.2.2.1 ≤ x.2.2.2.2 ∧ x.2.2.2.2 ≤ x.1.length ∧ x.1.length ≤ 1048576) :
 Tot (ufa_ slf x) (fun r : YY6 × Int => r.1 = x.1 ∧ x.2.2.2.1 ≤ r.2 ∧ r.2 ≤ x.2.2.2.2) := by
 refine uv_ (R := fun r : YY6 × Int => r.1 = x.1 ∧ x.2.2.2.1 ≤ r.2 ∧ r.2 ≤ x.2.2.2.2) (fun y : YY6 × Int × YY14 × Int × Int => (∀ p, Tot (y.2.2.1 p) fun _ => True) ∧ 0 ≤ y.2.1 ∧ y.2.1 < y.1.length ∧ 0 ≤ y.2.2.2.1 ∧ y.2.2.2.1 ≤ y.2.2.2.2 ∧ y.2.2.2.2 ≤ y.1.length ∧ y.1.length ≤ 1048576 ∧ y.1 = x.1 ∧ x.2.2.2.1 ≤ y.2.2.2.1 ∧ y.2.2.2.2 ≤ x.2.2.2.2)
  (fun y => (y.2.2.2.2 - y.2.2.2.1).toNat) ?_ _ _ ⟨h.1, h.2.1, h.2.2.1, h.2.2.2.1, h.2.2.2.2.1, h.2.2.2.2.2.1, h.2.2.2.2.2.2, rfl, Int.le_refl _, Int.le_refl _⟩ (by obtain ⟨_, _, _, _, _, _, _⟩ := h; unfold fuel; omega)
 rintro next ⟨data_0, a_1, cmp_4, i_10, j_11⟩ h hn
 dsimp only at h hn
 obtain ⟨h0, h1, h2, h3, h4, h5, h6, h7, h8, h9⟩ := h
 unfold uiv_
 dsimp only
 refine ug_.2 ⟨fun hc => ?_, fun hc => ub_.2 ⟨h7, h8, by dsimp only; omega⟩⟩
 have hc := of_decide_eq_true hc
 refine ua_.2 (ubhi_ (by omega) (by omega) (by omega) (by omega) ?_)
 have hw1 : IntKind.i64.wrap ((i_10 + j_11) / 2) = (i_10 + j_11) / 2 := ubm_ (by omega) (by omega)
 have hw2 : IntKind.i64.wrap ((i_10 + j_11) / 2 + 1) = (i_10 + j_11) / 2 + 1 := ubm_ (by omega) (by omega)
 rw [hw1, hw2]
 refine ua_.2 (uft_.2 ⟨⟨by omega, by omega⟩, ?_⟩)
 refine ua_.2 (uft_.2 ⟨⟨by omega, by omega⟩, ?_⟩)
 refine ua_.2 ((h0 _).mono fun r4 _ => ?_)
 refine ug_.2 ⟨fun _ => ?_, fun _ => ?_⟩
 · exact hn _ ⟨h0, h1, h2, by dsimp only; omega, by dsimp only; omega, h5, h6, h7, by dsimp only; omega, h9⟩ (by dsimp only; omega)
 · exact hn _ ⟨h0, h1, h2, h3, by dsimp only; omega, by dsimp only; omega, h6, h7, h8, by dsimp only; omega⟩ (by dsimp only; omega)
end Go.Ev.Pv
namespace Go.Ev.Pv
theorem uqw_ (slf : YY6 × Int × Int × Int × YY14 → Option YY6) (x : YY6 × Int × Int) (h : 0 ≤ x.2.1 ∧ x.2.1 ≤ x.1.length ∧ 0 ≤ x.2.2 ∧ x.1.length ≤ 1048576) :
 Tot (ufb_ slf x) (fun r : List (Str × Str) => r.length = x.1.length ∧ ∀ q ∈ r, q ∈ x.1) := by
 refine uv_ (R := fun r : List (Str × Str) => r.length = x.1.length ∧ ∀ q ∈ r, q ∈ x.1) (fun y : YY6 × Int × Int => 0 ≤ y.2.1 ∧ y.2.1 ≤ y.1.length ∧ 0 ≤ y.2.2 ∧ y.1.length ≤ 1048576 ∧ y.1.length = x.1.length ∧ ∀ q ∈ y.1, q ∈ x.1)
  (fun y => (y.2.1 - y.2.2).toNat) ?_ _ _ ⟨h.1, h.2.1, h.2.2.1, h.2.2.2, rfl, fun q hq => hq⟩ (by obtain ⟨_, _, _, _⟩ := h; unfold fuel; omega)
 rintro next ⟨data_0, i_10, k_13⟩ h hn
 dsimp only at h hn
 obtain ⟨h1, h2, h3, h4, h5, h6⟩ := h
 unfold uiw_
 dsimp only
 rw [ubm_ (n := i_10 - 1) (by omega) (by omega)]
 refine ug_.2 ⟨fun hc => ?_, fun hc => ub_.2 ⟨h5, h6⟩⟩
 have hc := of_decide_eq_true hc
 have hw : IntKind.i64.wrap (k_13 + 1) = k_13 + 1 := ubm_ (by omega) (by omega)
 rw [hw]
 refine ua_.2 (uft_.2 ⟨⟨by omega, by omega⟩, ?_⟩)
 refine ua_.2 (uft_.2 ⟨⟨by omega, by omega⟩, ?_⟩)
 refine ua_.2 (uft_.2 ⟨⟨by omega, by omega⟩, ?_⟩)
 refine ua_.2 (uft_.2 ⟨⟨by omega, by rw [List.length_set]; omega⟩, ?_⟩)
 refine hn _ ⟨h1, by simp only [List.length_set]; omega, by dsimp only; omega, by simp only [List.length_set]; omega, by simp only [List.length_set]; omega, fun q hq => ?_⟩ (by dsimp only; omega)
 rcases uf_ hq with hq | rfl
 · rcases uf_ hq with hq | rfl
   · exact h6 q hq
   · exact h6 _ (uj_ (by omega))
 · exact h6 _ (uj_ (by omega))
theorem upz_ (slf : YY6 × Int × Int × Int × YY14 → Option YY6) (x : YY6 × Int × Int) (h : 0 ≤ x.2.1 ∧ x.2.2 < x.1.length ∧ x.1.length ≤ 1048576) :
 Tot (ue3_ slf x) (fun r : List (Str × Str) => r.length = x.1.length ∧ ∀ q ∈ r, q ∈ x.1) := by
 refine uv_ (R := fun r : List (Str × Str) => r.length = x.1.length ∧ ∀ q ∈ r, q ∈ x.1) (fun y : YY6 × Int × Int => 0 ≤ y.2.1 ∧ y.2.2 < y.1.length ∧ y.1.length ≤ 1048576 ∧ y.1.length = x.1.length ∧ ∀ q ∈ y.1, q ∈ x.1)
  (fun y => (y.2.2 - y.2.1).toNat) ?_ _ _ ⟨h.1, h.2.1, h.2.2, rfl, fun q hq => hq⟩ (by obtain ⟨_, _, _⟩ := h; unfold fuel; omega)
 rintro next ⟨data_0, i_14, k_17⟩ h hn
 dsimp only at h hn
 obtain ⟨h1, h2, h4, h5, h6⟩ := h
 unfold uif_
 dsimp only
 refine ug_.2 ⟨fun hc => ?_, fun hc => ub_.2 ⟨h5, h6⟩⟩
 have hc := of_decide_eq_true hc
 have hw : IntKind.i64.wrap (k_17 - 1) = k_17 - 1 := ubm_ (by omega) (by omega)
 rw [hw]
 refine ua_.2 (uft_.2 ⟨⟨by omega, by omega⟩, ?_⟩)
 refine ua_.2 (uft_.2 ⟨⟨by omega, by omega⟩, ?_⟩)
 refine ua_.2 (uft_.2 ⟨⟨by omega, by omega⟩, ?_⟩)
 refine ua_.2 (uft_.2 ⟨⟨by omega, by rw [List.length_set]; omega⟩, ?_⟩)
 refine hn _ ⟨h1, by simp only [List.length_set]; omega, by simp only [List.length_set]; omega, by simp only [List.length_set]; omega, fun q hq => ?_⟩ (by dsimp only; omega)
 rcases uf_ hq with hq | rfl
 · rcases uf_ hq with hq | rfl
   · exact h6 q hq
   · exact h6 _ (uj_ (by omega))
 · exact h6 _ (uj_ (by omega))
end Go.Ev.Pv
namespace Go.Ev.Pv
theorem uqx_ (slf : YY6 × Int × Int × Int × YY14 → Option YY6) (x : YY6 × Int × YY14 × Int × Int) (h : (∀ p, Tot (x.2.2.1 p) fun _ => True) ∧ 0 ≤ x.2.1 ∧ x.2.1 < x.1.length ∧ 0 ≤ x.2.2.2.1 ∧ x.2.2.2.1 ≤ x.2.2.2.2 ∧ x.2.2.2.2 ≤ x.1.length ∧ x.1.length ≤ 1048576) :
 Tot (ufc_ slf x) (fun r : YY6 × Int => r.1 = x.1 ∧ x.2.2.2.1 ≤ r.2 ∧ r.2 ≤ x.2.2.2.2) := by
 refine uv_ (R := fun r : YY6 × Int => r.1 = x.1 ∧ x.2.2.2.1 ≤ r.2 ∧ r.2 ≤ x.2.2.2.2) (fun y : YY6 × Int × YY14 × Int × Int => (∀ p, Tot (y.2.2.1 p) fun _ => True) ∧ 0 ≤ y.2.1 ∧ y.2.1 < y.1.length ∧ 0 ≤ y.2.2.2.1 ∧ y.2.2.2.1 ≤ y.2.2.2.2 ∧ y.2.2.2.2 ≤ y.1.length ∧ y.1.length ≤ 1048576 ∧ y.1 = x.1 ∧ x.2.2.2.1 ≤ y.2.2.2.1 ∧ y.2.2.2.2 ≤ x.2.2.2.2)
  (fun y => (y.2.2.2.2 - y.2.2.2.1).toNat) ?_ _ _ ⟨h.1, h.2.1, h.2.2.1, h.2.2.2.1, h.2.2.2.2.1, h.2.2.2.2.2.1, h.2.2.2.2.2.2, rfl, Int.le_refl _, Int.le_refl _⟩ (by obtain ⟨_, _, _, _, _, _, _⟩ := h; unfold fuel; omega)
 rintro next ⟨data_0, m_2, cmp_4, i_14, j_15⟩ h hn
 dsimp only at h hn
 obtain ⟨h0, h1, h2, h3, h4, h5, h6, h7, h8, h9⟩ := h
 unfold uix_
 dsimp only
 refine ug_.2 ⟨fun hc => ?_, fun hc => ub_.2 ⟨h7, h8, by dsimp only; omega⟩⟩
 have hc := of_decide_eq_true hc
 refine ua_.2 (ubhi_ (by omega) (by omega) (by omega) (by omega) ?_)
 have hw1 : IntKind.i64.wrap ((i_14 + j_15) / 2) = (i_14 + j_15) / 2 := ubm_ (by omega) (by omega)
 have hw2 : IntKind.i64.wrap ((i_14 + j_15) / 2 + 1) = (i_14 + j_15) / 2 + 1 := ubm_ (by omega) (by omega)
 rw [hw1, hw2]
 refine ua_.2 (uft_.2 ⟨⟨by omega, by omega⟩, ?_⟩)
 refine ua_.2 (uft_.2 ⟨⟨by omega, by omega⟩, ?_⟩)
 refine ua_.2 ((h0 _).mono fun r13 _ => ?_)
 refine ug_.2 ⟨fun _ => ?_, fun _ => ?_⟩
 · exact hn _ ⟨h0, h1, h2, by dsimp only; omega, by dsimp only; omega, h5, h6, h7, by dsimp only; omega, h9⟩ (by dsimp only; omega)
 · exact hn _ ⟨h0, h1, h2, h3, by dsimp only; omega, by dsimp only; omega, h6, h7, h8, by dsimp only; omega⟩ (by dsimp only; omega)
end Go.Ev.Pv
namespace Go.Ev.Pv
theorem up0_ (slf : YY6 × Int × Int × Int × YY14 → Option YY6) (x : YY6 × YY14 × Int × Int × Int) (h : (∀ p, Tot (x.2.1 p) fun _ => True) ∧ 0 ≤ x.2.2.1 ∧ x.2.2.1 ≤ x.2.2.2.1 ∧ x.2.2.2.1 ≤ x.1.length ∧ x.2.2.2.1 - 1 ≤ x.2.2.2.2 ∧ x.2.2.2.2 - x.2.2.1 < x.1.length ∧ x.1.length ≤ 1048576) :
 Tot (ue4_ slf x) (fun r : YY6 × Int => r.1 = x.1 ∧ x.2.2.1 ≤ r.2 ∧ r.2 ≤ x.2.2.2.1) := by
 refine uv_ (R := fun r : YY6 × Int => r.1 = x.1 ∧ x.2.2.1 ≤ r.2 ∧ r.2 ≤ x.2.2.2.1) (fun y : YY6 × YY14 × Int × Int × Int => (∀ p, Tot (y.2.1 p) fun _ => True) ∧ 0 ≤ y.2.2.1 ∧ y.2.2.1 ≤ y.2.2.2.1 ∧ y.2.2.2.1 ≤ y.1.length ∧ y.2.2.2.1 - 1 ≤ y.2.2.2.2 ∧ y.2.2.2.2 - y.2.2.1 < y.1.length ∧ y.1.length ≤ 1048576 ∧ y.1 = x.1 ∧ x.2.2.1 ≤ y.2.2.1 ∧ y.2.2.2.1 ≤ x.2.2.2.1)
  (fun y => (y.2.2.2.1 - y.2.2.1).toNat) ?_ _ _ ⟨h.1, h.2.1, h.2.2.1, h.2.2.2.1, h.2.2.2.2.1, h.2.2.2.2.2.1, h.2.2.2.2.2.2, rfl, Int.le_refl _, Int.le_refl _⟩ (by obtain ⟨_, _, _, _, _, _, _⟩ := h; unfold fuel; omega)
 rintro next ⟨data_0, cmp_4, start_20, r_21, p_22⟩ h hn
 dsimp only at h hn
 obtain ⟨h0, h1, h2, h3, h4, h5, h6, h7, h8, h9⟩ := h
 unfold uig_
 dsimp only
 refine ug_.2 ⟨fun hc => ?_, fun hc => ub_.2 ⟨h7, h8, by dsimp only; omega⟩⟩
 have hc := of_decide_eq_true hc
 refine ua_.2 (ubhi_ (by omega) (by omega) (by omega) (by omega) ?_)
 have hw1 : IntKind.i64.wrap ((start_20 + r_21) / 2) = (start_20 + r_21) / 2 := ubm_ (by omega) (by omega)
 have hw2 : IntKind.i64.wrap ((start_20 + r_21) / 2 + 1) = (start_20 + r_21) / 2 + 1 := ubm_ (by omega) (by omega)
 have hw3 : IntKind.i64.wrap (p_22 - (start_20 + r_21) / 2) = p_22 - (start_20 + r_21) / 2 := ubm_ (by omega) (by omega)
 rw [hw1, hw2, hw3]
 refine ua_.2 (uft_.2 ⟨⟨by omega, by omega⟩, ?_⟩)
 refine ua_.2 (uft_.2 ⟨⟨by omega, by omega⟩, ?_⟩)
 refine ua_.2 ((h0 _).mono fun r4 _ => ?_)
 refine ug_.2 ⟨fun _ => ?_, fun _ => ?_⟩
 · exact hn _ ⟨h0, by dsimp only; omega, by dsimp only; omega, h3, h4, by dsimp only; omega, h6, h7, by dsimp only; omega, h9⟩ (by dsimp only; omega)
 · exact hn _ ⟨h0, h1, by dsimp only; omega, by dsimp only; omega, by dsimp only; omega, h5, h6, h7, h8, by dsimp only; omega⟩ (by dsimp only; omega)
end Go.Ev.Pv
namespace Go.Ev.Pv
theorem up1_ (slf : YY6 × Int × Int × Int × YY14 → Option YY6) (x : YY6 × Int × YY14 × Int × Int × Bool) (h : x.1.length ≤ 1048576 ∧ (x.2.2.2.2.2 = true → 0 ≤ x.2.2.2.1 ∧ x.2.2.2.1 < x.2.1 ∧ x.2.1 < x.2.2.2.2.1 ∧ x.2.2.2.2.1 ≤ x.1.length)) :
 Tot (uc4_ slf x) (fun r : List (Str × Str) => r.length = x.1.length ∧ ∀ q ∈ r, q ∈ x.1) := by
 obtain ⟨data_0, m_2, cmp_4, start_20, end_24, t185⟩ := x
 dsimp only at h
 unfold uc4_
 dsimp only
 refine ug_.2 ⟨fun hc => ?_, fun _ => ub_.2 ⟨rfl, fun q hq => hq⟩⟩
 obtain ⟨h1, h2, h3, h4⟩ := h.2 hc
 exact ua_.2 ((uvm_ _ ⟨h1, h2, h3, h4, h.1⟩).mono fun r hr => ub_.2 hr)
end Go.Ev.Pv
namespace Go.Ev.Pv
theorem uo7_ (slf : YY6 × Int × Int × Int × YY14 → Option YY6) (K : Int) (ih : ∀ y : YY6 × Int × Int × Int × YY14, ((∀ p, Tot (y.2.2.2.2 p) fun _ => True) ∧ 0 ≤ y.2.1 ∧ y.2.1 < y.2.2.1 ∧ y.2.2.1 < y.2.2.2.1 ∧ y.2.2.2.1 ≤ y.1.length ∧ y.1.length ≤ 1048576) → y.2.2.2.1 - y.2.1 ≤ K → Tot (slf y) (fun r : List (Str × Str) => r.length = y.1.length ∧ ∀ q ∈ r, q ∈ y.1)) (x : YY6 × Int × Int × Int × YY14) (h : (∀ p, Tot (x.2.2.2.2 p) fun _ => True) ∧ 0 ≤ x.2.1 ∧ x.2.1 < x.2.2.1 ∧ x.2.2.1 < x.2.2.2.1 ∧ x.2.2.2.1 ≤ x.1.length ∧ x.1.length ≤ 1048576) (hK : x.2.2.2.1 - x.2.1 ≤ 2 * K) :
 Tot (uek_ slf x) (fun r : List (Str × Str) => r.length = x.1.length ∧ ∀ q ∈ r, q ∈ x.1) := by
 obtain ⟨data_0, a_1, m_2, b_3, cmp_4⟩ := x
 dsimp only at h hK
 obtain ⟨h0, h1, h2, h3, h4, h5⟩ := h
 unfold uek_
 dsimp only
 rw [ubm_ (n := m_2 - a_1) (by omega) (by omega), ubm_ (n := b_3 - m_2) (by omega) (by omega)]
 refine ug_.2 ⟨fun _ => ?_, fun _ => ug_.2 ⟨fun _ => ?_, fun _ => ?_⟩⟩
 · refine ua_.2 ((uqv_ slf _ ⟨h0, h1, by dsimp only; omega, by dsimp only; omega, by dsimp only; omega, h4, h5⟩).mono fun r5 hr => ?_)
   dsimp only at hr
   obtain ⟨e1, e2, e3⟩ := hr
   refine ua_.2 ((uqw_ slf _ ⟨by dsimp only; omega, by dsimp only; rw [e1]; omega, h1, by dsimp only; rw [e1]; exact h5⟩).mono fun r9 hr => ub_.2 ?_)
   dsimp only at hr
   rw [e1] at hr; exact hr
 · refine ua_.2 ((uqx_ slf _ ⟨h0, by dsimp only; omega, by dsimp only; omega, h1, by dsimp only; omega, by dsimp only; omega, h5⟩).mono fun r5 hr => ?_)
   dsimp only at hr
   obtain ⟨e1, e2, e3⟩ := hr
   refine ua_.2 ((upz_ slf _ ⟨by dsimp only; omega, by dsimp only; rw [e1]; omega, by dsimp only; rw [e1]; exact h5⟩).mono fun r9 hr => ub_.2 ?_)
   dsimp only at hr
   rw [e1] at hr; exact hr
 · refine ua_.2 (ubhi_ (by omega) (by omega) (by omega) (by omega) ?_)
   generalize hmid : (a_1 + b_3) / 2 = mid
   rw [ubm_ (n := mid) (by omega) (by omega), ubm_ (n := mid + m_2) (by omega) (by omega), ubm_ (n := mid + m_2 - 1) (by omega) (by omega)]
   have hp : Tot (uc3_ slf (a_1, m_2, b_3, mid, mid + m_2, decide (mid < m_2))) fun r : Int × Int => 0 ≤ r.1 ∧ a_1 ≤ r.1 ∧ mid + m_2 - b_3 ≤ r.1 ∧ r.1 ≤ r.2 ∧ r.2 ≤ m_2 ∧ r.2 ≤ mid + m_2 ∧ mid + m_2 - 1 - r.1 < data_0.length := by
    unfold uc3_
    dsimp only
    refine ug_.2 ⟨fun hc => ub_.2 ?_, fun hc => ub_.2 ?_⟩
    · have hc := of_decide_eq_true hc
      rw [ubm_ (by omega) (by omega)]
      dsimp only; omega
    · have hc := of_decide_eq_false hc
      dsimp only; omega
   refine ua_.2 (hp.mono fun r20 hr => ?_)
   obtain ⟨f1, f2, f3, f4, f5, f6, f7⟩ := hr
   refine ua_.2 ((up0_ slf _ ⟨h0, f1, f4, by dsimp only; omega, by dsimp only; omega, f7, h5⟩).mono fun r26 hr => ?_)
   dsimp only at hr
   obtain ⟨e1, e2, e3⟩ := hr
   rw [ubm_ (n := mid + m_2 - r26.2) (by omega) (by omega)]
   refine ua_.2 ((up1_ slf _ ⟨by dsimp only; rw [e1]; exact h5, fun hc => ?_⟩).mono fun r29 hr => ?_)
   · dsimp only at hc ⊢
     rw [Bool.and_eq_true, decide_eq_true_eq, decide_eq_true_eq] at hc
     rw [e1]
     omega
   dsimp only at hr
   rw [e1] at hr
   obtain ⟨g1, g2⟩ := hr
   have hq : Tot (uc5_ slf (r29, a_1, cmp_4, mid, r26.2, decide (a_1 < r26.2) && decide (r26.2 < mid))) fun r : List (Str × Str) => r.length = data_0.length ∧ ∀ q ∈ r, q ∈ data_0 := by
    unfold uc5_
    dsimp only
    refine ug_.2 ⟨fun hc => ?_, fun _ => ub_.2 ⟨g1, g2⟩⟩
    rw [Bool.and_eq_true, decide_eq_true_eq, decide_eq_true_eq] at hc
    refine ua_.2 ((ih _ ⟨h0, h1, by dsimp only; omega, by dsimp only; omega, by dsimp only; omega, by dsimp only; omega⟩ (by dsimp only; omega)).mono fun r31 hr => ub_.2 ?_)
    dsimp only at hr
    exact ⟨by omega, fun q hq => g2 q (hr.2 q hq)⟩
   refine ua_.2 (hq.mono fun r32 hr => ?_)
   obtain ⟨k1, k2⟩ := hr
   refine ug_.2 ⟨fun hc => ?_, fun _ => ub_.2 ⟨k1, k2⟩⟩
   rw [Bool.and_eq_true, decide_eq_true_eq, decide_eq_true_eq] at hc
   refine ua_.2 ((ih _ ⟨h0, by dsimp only; omega, by dsimp only; omega, by dsimp only; omega, by dsimp only; omega, by dsimp only; omega⟩ (by dsimp only; omega)).mono fun r34 hr => ub_.2 ?_)
   dsimp only at hr
   exact ⟨by omega, fun q hq => k2 q (hr.2 q hq)⟩
end Go.Ev.Pv
namespace Go.Ev.Pv
theorem urh_ : ∀ (n : Nat) (x : YY6 × Int × Int × Int × YY14) (h : (∀ p, Tot (x.2.2.2.2 p) fun _ => True) ∧ 0 ≤ x.2.1 ∧ x.2.1 < x.2.2.1 ∧ x.2.2.1 < x.2.2.2.1 ∧ x.2.2.2.1 ≤ x.1.length ∧ x.1.length ≤ 1048576) (hK : x.2.2.2.1 - x.2.1 ≤ 2 ^ n), Tot (ur_ n x) (fun r : List (Str × Str) => r.length = x.1.length ∧ ∀ q ∈ r, q ∈ x.1) := by
 intro n
 induction n with
 | zero =>
   intro x h hK
   obtain ⟨_, h1, h2, h3, _, _⟩ := h
   rw [Int.pow_zero] at hK
   omega
 | succ n ih =>
   intro x h hK
   refine uo7_ (ur_ n) (2 ^ n) (fun y hy hk => ih y hy hk) x h ?_
   rw [Int.pow_succ] at hK
   omega
theorem uin_ (x : YY6 × Int × Int × Int × YY14) (h : (∀ p, Tot (x.2.2.2.2 p) fun _ => True) ∧ 0 ≤ x.2.1 ∧ x.2.1 < x.2.2.1 ∧ x.2.2.1 < x.2.2.2.1 ∧ x.2.2.2.1 ≤ x.1.length ∧ x.1.length ≤ 1048576) : Tot (uck_ x) (fun r : List (Str × Str) => r.length = x.1.length ∧ ∀ q ∈ r, q ∈ x.1) := by
 unfold uck_
 refine urh_ 100 x h ?_
 obtain ⟨_, h1, h2, h3, h4, h5⟩ := h
 have : (1048576 : Int) ≤ 2 ^ 100 := by decide
 omega
end Go.Ev.Pv
namespace Go.Ev.Pv
theorem ub04_ {s p : Str} (h : Lib.hasPrefix s p = true) : p.length ≤ s.length := (List.isPrefixOf_iff_prefix.1 h).length_le
theorem ubjo_ (x : Str × Str) (h : True) : Tot (strings_HasPrefix x) (fun r : Bool => r = true → x.2.length ≤ x.1.length) := ub_.2 ub04_
theorem trimPrefix_len (s p : Str) : (Lib.trimPrefix s p).length ≤ s.length := by
 unfold Lib.trimPrefix
 split
 · rw [List.length_drop]; omega
 · exact Nat.le_refl _
theorem ubhj_ (x : Str × Str) (h : True) : Tot (strings_TrimPrefix x) (fun r : Str => r.length ≤ x.1.length) := ub_.2 (trimPrefix_len _ _)
theorem ubjp_ (x : Str × Str) (h : True) : Tot (strings_CutPrefix x) (fun r : Str × Bool => r.1.length ≤ x.1.length) := ub_.2 (trimPrefix_len _ _)
theorem ubky_ (x : Str × Str) (h : x.1.length ≤ 1048576) : Tot (strings_Cut x) (fun r : Str × Str × Bool => r.1.length ≤ x.1.length ∧ r.2.1.length ≤ x.1.length) := by
 unfold strings_Cut ifB
 rw [decide_eq_true (by omega)]
 refine ub_.2 ?_
 unfold Lib.cut
 split
 · simp only [List.length_take, List.length_drop]; omega
 · simp
theorem u9d_ (x : Str × Int) (h : x.1.length ≤ 1048576) : Tot (strings_LastIndexByte x) (fun r : Int => -1 ≤ r ∧ r < x.1.length) := by
 unfold strings_LastIndexByte ifB
 rw [decide_eq_true (by omega)]
 refine ub_.2 ?_
 have hs : (⟨x.1.toArray⟩ : ByteArray).size = x.1.length := by simp [ByteArray.size]
 rcases Lib.lastIndexByte_spec ⟨x.1.toArray⟩ x.2 with ⟨e, _⟩ | ⟨i, hi, e, _⟩ <;> rw [e] <;> omega
theorem ub8e_ : ∀ (k u m : Nat), u < 10 ^ m → 1 ≤ m → (decS k u).length ≤ m := by
 intro k
 induction k with
 | zero => intro u m _ _; simp [decS]
 | succ k ih =>
   intro u m hu hm
   simp only [decS]
   split
   · simpa using hm
   · rename_i h
     obtain ⟨j, rfl⟩ : ∃ j, m = j + 1 := ⟨m - 1, by omega⟩
     have hj : 1 ≤ j := by
      rcases j with _ | j
      · simp at hu; omega
      · omega
     have := ih (u / 10) j (by rw [Nat.pow_succ] at hu; omega) hj
     simp only [List.length_append, List.length_cons, List.length_nil]
     omega
theorem ucag_ : ∀ (k u : Nat), 1 ≤ k → 1 ≤ (decS k u).length := by
 intro k u h
 obtain ⟨j, rfl⟩ : ∃ j, k = j + 1 := ⟨k - 1, by omega⟩
 simp only [decS]
 split <;> simp
theorem ubh_ (x : Int) (h : True) : Tot (strconv_Itoa x) (fun r : Str => 1 ≤ r.length ∧ r.length ≤ 21 ∧ (0 ≤ x → x ≤ 999999999999999999 → r.length ≤ 18)) := by
 refine ub_.2 ⟨?_, ub3n_ x, ?_⟩
 · unfold itoaS
   split
   · simp
   · exact ucag_ 20 _ (by decide)
 · intro h0 h1
   unfold itoaS
   rw [if_neg (by omega)]
   exact ub8e_ 20 _ 18 (by have h18 : (10 : Nat) ^ 18 = 1000000000000000000 := (by decide); omega) (by decide)
def IsDig (b : UInt8) : Prop := 48 ≤ b.toNat ∧ b.toNat ≤ 57
theorem ub8f_ : ∀ (l : Str) (acc k : Nat), (∀ b ∈ l, IsDig b) → acc < 10 ^ k → l.length + k ≤ 18 → ∃ u, Lib.parseUint10 acc l = .ok u ∧ u < 10 ^ 18 := by
 intro l
 induction l with
 | nil => intro acc k _ h1 h2; exact ⟨acc, rfl, Nat.lt_of_lt_of_le h1 (Nat.pow_le_pow_right (by decide) (by simpa using h2))⟩
 | cons c r ih =>
   intro acc k hd h1 h2
   have hl : r.length + 1 + k ≤ 18 := by simpa using h2
   have hp : 10 ^ k ≤ 10 ^ 17 := Nat.pow_le_pow_right (by decide) (by omega)
   have e17 : (10 : Nat) ^ 17 = 100000000000000000 := by decide
   have hc : 48 ≤ c.toNat ∧ c.toNat ≤ 57 := hd c List.mem_cons_self
   simp only [Lib.parseUint10]
   rw [if_pos hc, if_neg (by omega), if_neg (by omega)]
   exact ih _ (k + 1) (fun b hb => hd b (List.mem_cons_of_mem _ hb)) (by rw [Nat.pow_succ]; omega) (by omega)
theorem ub2o_ (s : Str) (h0 : s ≠ []) (hd : ∀ b ∈ s, IsDig b) (hl : s.length ≤ 18) : ∃ u : Nat, Lib.atoiAll s = .ok (u : Int) ∧ u < 1000000000000000000 := by
 cases s with
 | nil => exact absurd rfl h0
 | cons c r =>
   have hc := hd c List.mem_cons_self
   unfold IsDig at hc
   obtain ⟨u, e, hu⟩ := ub8f_ (c :: r) 0 0 hd (by decide) hl
   have e18 : (10 : Nat) ^ 18 = 1000000000000000000 := by decide
   rw [e18] at hu
   refine ⟨u, ?_, hu⟩
   unfold Lib.atoiAll
   simp only
   rw [if_neg (by omega)]
   unfold Lib.parseMag
   rw [if_neg (by simp), e]
   simp only
   rw [if_neg (by omega), if_neg (by omega), if_neg (by omega)]
theorem ubv5_ (x : Str) (h : x.length ≤ 1048576) : Tot (u9p_ x) (fun r : Int × Unit => x ≠ [] → (∀ b ∈ x, IsDig b) → x.length ≤ 18 → 0 ≤ r.1 ∧ r.1 ≤ 999999999999999999) := by
 unfold u9p_ ifB
 rw [decide_eq_true (by omega)]
 show Tot (match Lib.atoiAll x with | .ok v => some (v, ()) | .range => some (Lib.atoiSat x, ()) | _ => some (0, ())) _
 cases e : Lib.atoiAll x with
 | ok v =>
   refine ub_.2 fun h1 h2 h3 => ?_
   obtain ⟨u, e2, hu⟩ := ub2o_ x h1 h2 h3
   rw [e] at e2
   injection e2 with e2
   subst e2
   dsimp only
   omega
 | range => exact ub_.2 fun h1 h2 h3 => by obtain ⟨u, e2, _⟩ := ub2o_ x h1 h2 h3; rw [e] at e2; cases e2
 | _ => exact ub_.2 fun h1 h2 h3 => by obtain ⟨u, e2, _⟩ := ub2o_ x h1 h2 h3; rw [e] at e2; cases e2
theorem ubrh_ (x : Str × Int) (h : x.1.length = 1 ∧ 0 ≤ x.2 ∧ x.2 ≤ 1048576) : Tot (strings_Repeat x) (fun r : Str => (r.length : Int) = x.2) := by
 unfold strings_Repeat ifB
 rw [decide_eq_true (by rw [h.1]; omega)]
 refine ub_.2 ?_
 rw [Lib.repeatL_length, h.1]
 omega
theorem ubzk_ (r : Int) : (Lib.encodeRune r).length ≤ 4 := by
 unfold Lib.encodeRune Lib.encodeRuneZ
 rw [List.length_map]
 repeat' split
 all_goals simp
theorem ub6v_ (f : Int → Int) : ∀ (n : Nat) (l : Str), (Lib.mapGoD f n l).length ≤ 4 * n := by
 intro n
 induction n with
 | zero => intro l; simp [Lib.mapGoD]
 | succ n ih =>
   intro l
   simp only [Lib.mapGoD]
   split
   · simp
   · rw [List.length_append]
     have h1 := ih (l.drop (Lib.decodeL l).2)
     have h2 : (if 0 ≤ f (Lib.decodeL l).1 then Lib.encodeRune (f (Lib.decodeL l).1) else []).length ≤ 4 := by
      split
      · exact ubzk_ _
      · simp
     omega
theorem u50_ (x : Str) (h : x.length ≤ 1048576) : Tot (uq0_ x) (fun r : Str => r.length ≤ 4 * x.length) := by
 unfold uq0_ ifB
 rw [decide_eq_true (by omega)]
 have h1 : (Lib.toLowerD x).length ≤ 4 * x.length := ub6v_ _ _ _
 show Tot (str? _) _
 unfold str?
 rw [decide_eq_true (by omega)]
 exact ub_.2 h1
theorem ubzl_ (p : Nat → Bool) (s : ByteArray) : ∀ (f pos : Nat) (st : Option Nat) (acc : List (Nat × Nat)), (Lib.spansFromP p s f pos st acc).1.length ≤ acc.length + f := by
 intro f
 induction f with
 | zero => intro pos st acc; simp [Lib.spansFromP]
 | succ f ih =>
   intro pos st acc
   simp only [Lib.spansFromP]
   split
   · split
     · cases st with
       | some a => have := ih (pos + (Utf8.decode s pos).2) none (acc ++ [(a, pos)]); simp only [List.length_append, List.length_cons, List.length_nil] at this ⊢; omega
       | none => have := ih (pos + (Utf8.decode s pos).2) none acc; dsimp only; omega
     · cases st with
       | some a => have := ih (pos + (Utf8.decode s pos).2) (some a) acc; dsimp only; omega
       | none => have := ih (pos + (Utf8.decode s pos).2) (some pos) acc; dsimp only; omega
   · simp
theorem ub05_ (p : Nat → Bool) (s : ByteArray) : (Lib.goFieldsP p s).length ≤ s.size + 1 := by
 unfold Lib.goFieldsP Lib.spansOfP Lib.closeSpans
 rw [List.length_map]
 have := ubzl_ p s s.size 0 none []
 simp only [List.length_nil] at this
 split
 · rw [List.length_append]; simp only [List.length_cons, List.length_nil]; omega
 · omega
theorem ubzm_ (p : Nat → Bool) (s : ByteArray) : ∀ b ∈ Lib.goFieldsP p s, b.size ≤ s.size := by
 intro b hb
 unfold Lib.goFieldsP at hb
 obtain ⟨x, _, rfl⟩ := List.mem_map.1 hb
 rw [ByteArray.size_extract]
 omega
theorem ubhk_ (x : Str × YY30) (h : x.1.length ≤ 1048576 ∧ ∀ c, Tot (x.2 c) fun _ => True) : Tot (uhr_ x) (fun r : List Str => r.length ≤ x.1.length + 1 ∧ ∀ s ∈ r, s.length ≤ x.1.length) := by
 have hs : (⟨x.1.toArray⟩ : ByteArray).size = x.1.length := by simp [ByteArray.size]
 have hl := fun p => ub05_ p ⟨x.1.toArray⟩
 rw [hs] at hl
 unfold uhr_ ifB
 rw [@decide_eq_true _ (Classical.propDecidable _) ⟨by omega, fun r _ => let ⟨b, e, _⟩ := h.2 r; ⟨b, e⟩, by have := hl fun r => (x.2 (r : Int)).getD false; omega⟩]
 refine ub_.2 ⟨?_, ?_⟩
 · rw [List.length_map]; exact hl _
 · intro s h1
   obtain ⟨b, hb, rfl⟩ := List.mem_map.1 h1
   have := ubzm_ _ _ b hb
   rw [hs] at this
   have e : b.data.toList.length = b.size := by rw [Array.length_toList]; rfl
   omega
end Go.Ev.Pv
namespace Go.Ev.Pv
abbrev Nm (n : Int) : Prop := 0 ≤ n ∧ n ≤ 999999999999999999
abbrev Nm1 (n : Int) : Prop := -1 ≤ n ∧ n ≤ 999999999999999999
abbrev LS (l : List Str) : Prop := l.length ≤ 1002 ∧ ∀ s ∈ l, s.length ≤ 1000
abbrev NS (l : List Int) : Prop := l.length ≤ 1002 ∧ ∀ n ∈ l, 0 ≤ n ∧ n ≤ 999999999999999999
abbrev TS (l : List YY16) : Prop := l.length ≤ 1002 ∧ ∀ t ∈ l, t.2.1.length ≤ 5000 ∧ 0 ≤ t.2.2 ∧ t.2.2 ≤ 999999999999999999
abbrev Dt := (List Int) × (List Str)
abbrev Rv := Int × Str × Str × Bool
abbrev Sg := Int × (List Int) × Int × Int × Int × Int × (List Str)
abbrev Ql := List YY16
abbrev Vr := Sum YY23 (Sum YY29 (Sum YY9 (Sum (List YY16) (Sum Int Unit))))
abbrev DOK (v : Dt) : Prop := v.1.length = 3 ∧ (∀ n ∈ v.1, 0 ≤ n ∧ n ≤ 999999999999999999) ∧ v.2.length ≤ 1002 ∧ ∀ s ∈ v.2, s.length ≤ 1000
abbrev ROK (v : Rv) : Prop := Nm v.1 ∧ v.2.1.length ≤ 1000 ∧ v.2.2.1.length ≤ 1000
abbrev SOK (v : Sg) : Prop := Nm v.1 ∧ NS v.2.1 ∧ (0 ≤ v.2.2.1 ∧ v.2.2.1 ≤ 3) ∧ Nm v.2.2.2.1 ∧ Nm1 v.2.2.2.2.1 ∧ Nm1 v.2.2.2.2.2.1 ∧ LS v.2.2.2.2.2.2
def VOK (v : Vr) : Prop := match v with
 | .inl d => DOK d
 | .inr (.inl r) => ROK r
 | .inr (.inr (.inl s)) => SOK s
 | .inr (.inr (.inr (.inl q))) => TS q
 | .inr (.inr (.inr (.inr (.inl n)))) => Nm n
 | .inr (.inr (.inr (.inr (.inr _)))) => False
theorem vok_d (d : Dt) : VOK (.inl d) = DOK d := rfl
theorem vok_r (d : Rv) : VOK (.inr (.inl d)) = ROK d := rfl
theorem vok_s (d : Sg) : VOK (.inr (.inr (.inl d))) = SOK d := rfl
theorem vok_q (d : Ql) : VOK (.inr (.inr (.inr (.inl d)))) = TS d := rfl
theorem vok_p (d : Int) : VOK (.inr (.inr (.inr (.inr (.inl d))))) = Nm d := rfl
theorem uw_ {α : Type} {l : List α} {i j : Nat} {a : α} : a ∈ (l.take i).drop j → a ∈ l := fun h => List.mem_of_mem_take (List.mem_of_mem_drop h)
theorem ut_ {α : Type} (l : List α) (i j : Nat) : ((l.take i).drop j).length = min i l.length - j := by simp
theorem ub3r_ {xs : List Str} {sep : Str} {m k c : Nat} : (∀ s ∈ xs, s.length ≤ m) → xs.length ≤ k → sep.length ≤ c → (Lib.join xs sep).length ≤ k * (m + c) := fun h hk hc =>
 Nat.le_trans (ub2l_ sep m xs h) (Nat.mul_le_mul hk (by omega))
theorem ux_ (s : Str) : eqS s [] = decide (s.length = 0) := by rw [uy_]; cases s <;> simp
theorem ubri_ (x : Str × Int × YY30 × Int) (h : 0 ≤ x.2.2.2 ∧ 0 ≤ x.2.1 ∧ x.2.1 + x.2.2.2 ≤ x.1.length ∧ x.1.length ≤ 1048576 ∧ (∀ c, Tot (x.2.2.1 c) fun _ => True) ∧ (∀ j : Nat, x.2.1 ≤ j → j < x.2.1 + x.2.2.2 → ∀ c, x.1[j]? = some c → x.2.2.1 (c.toNat : Int) = some true)) :
 Tot (u9u_ x) (fun r : Int => x.2.2.2 ≤ r ∧ x.2.1 + r ≤ x.1.length ∧ (∀ j : Nat, x.2.1 ≤ j → j < x.2.1 + r → ∀ c, x.1[j]? = some c → x.2.2.1 (c.toNat : Int) = some true) ∧ ∀ c, x.1[(x.2.1 + r).toNat]? = some c → x.2.2.1 (c.toNat : Int) = some false) := by
 obtain ⟨s, at_, f, n⟩ := x
 dsimp only at h ⊢
 refine uv_ (R := fun r : Int => n ≤ r ∧ at_ + r ≤ s.length ∧ (∀ j : Nat, at_ ≤ j → j < at_ + r → ∀ c, s[j]? = some c → f (c.toNat : Int) = some true) ∧ ∀ c, s[(at_ + r).toNat]? = some c → f (c.toNat : Int) = some false)
  (fun y : Str × Int × YY30 × Int => y.1 = s ∧ y.2.1 = at_ ∧ y.2.2.1 = f ∧ n ≤ y.2.2.2 ∧ at_ + y.2.2.2 ≤ s.length ∧ (∀ j : Nat, at_ ≤ j → j < at_ + y.2.2.2 → ∀ c, s[j]? = some c → f (c.toNat : Int) = some true)) (fun y => (s.length - at_ - y.2.2.2).toNat) ?_ _ _ ⟨rfl, rfl, rfl, Int.le_refl _, h.2.2.1, h.2.2.2.2.2⟩ (by unfold fuel; dsimp only; omega)
 rintro next ⟨s', at', f', m⟩ hI hn
 dsimp only at hI hn
 obtain ⟨rfl, rfl, rfl, h1, h2, h3⟩ := hI
 obtain ⟨g1, g2, g3, g4, g5, _⟩ := h
 unfold ubnd_
 dsimp only
 rw [ubm_ (by omega) (by omega)]
 by_cases hc : at' + m < s'.length
 · rw [decide_eq_true hc]
   simp only [cond_true, Bool.true_and]
   refine ua_.2 (u8_.2 ⟨⟨by omega, by omega⟩, fun b hb => ?_⟩)
   obtain ⟨r, hr, _⟩ := g5 (b.toNat : Int)
   rw [hr]
   refine ua_.2 (ub_.2 ?_)
   refine ug_.2 ⟨fun e => ?_, fun e => ub_.2 ⟨h1, h2, h3, fun c hc' => ?_⟩⟩
   · subst e
     rw [ubm_ (by omega) (by omega)]
     refine hn _ ⟨rfl, rfl, rfl, by dsimp only; omega, by dsimp only; omega, ?_⟩ (by dsimp only; omega)
     intro j hj1 hj2 c hjc
     dsimp only at hj2
     by_cases hj3 : (j : Int) < at' + m
     · exact h3 j hj1 hj3 c hjc
     · have : j = (at' + m).toNat := by omega
       subst this
       rw [hb] at hjc
       cases hjc
       exact hr
   · subst e
     rw [hb] at hc'
     cases hc'
     exact hr
 · rw [decide_eq_false hc]
   simp only [cond_false, Bool.false_and]
   refine ua_.2 (ub_.2 ?_)
   refine ua_.2 (ub_.2 ?_)
   refine ub_.2 ⟨h1, h2, h3, fun c hc' => ?_⟩
   have := (List.getElem?_eq_some_iff.1 hc').1
   omega
theorem uxq_ (x : Str × Int × YY30) (h : 0 ≤ x.2.1 ∧ x.2.1 ≤ x.1.length ∧ x.1.length ≤ 1048576 ∧ (∀ c, Tot (x.2.2 c) fun _ => True)) :
 Tot (uc6_ x) (fun r : Int => 0 ≤ r ∧ x.2.1 + r ≤ x.1.length ∧ (∀ j : Nat, x.2.1 ≤ j → j < x.2.1 + r → ∀ c, x.1[j]? = some c → x.2.2 (c.toNat : Int) = some true) ∧ ∀ c, x.1[(x.2.1 + r).toNat]? = some c → x.2.2 (c.toNat : Int) = some false) := by
 obtain ⟨s, a, f⟩ := x
 dsimp only at h ⊢
 unfold uc6_
 refine ua_.2 ((ubri_ _ ⟨Int.le_refl _, h.1, by dsimp only; omega, h.2.2.1, h.2.2.2, fun j h1 h2 => by dsimp only at h1 h2; omega⟩).mono fun r hr => ub_.2 ?_)
 exact hr
theorem ubv6_ (x : Str × Int × YY30) (h : 0 ≤ x.2.1 ∧ x.2.1 ≤ x.1.length ∧ x.1.length ≤ 1048576 ∧ (∀ c, Tot (x.2.2 c) fun _ => True)) :
 Tot (uc6_ x) (fun r : Int => 0 ≤ r ∧ x.2.1 + r ≤ x.1.length) := (uxq_ x h).mono fun _ hr => ⟨hr.1, hr.2.1⟩
theorem uc1_ (x : Str × Int × YY30) (hf : ∀ c, Tot (x.2.2 c) (fun _ => True)) (h : 0 ≤ x.2.1 ∧ x.2.1 ≤ x.1.length ∧ x.1.length ≤ 1048576) :
 Tot (uc6_ x) (fun r : Int => 0 ≤ r ∧ x.2.1 + r ≤ x.1.length) := ubv6_ x ⟨h.1, h.2.1, h.2.2, hf⟩
theorem clo {α β : Type} {f : α → Option β} {P : β → Prop} {c : α} (h : Tot (f c) P) : Tot ((f c).bind fun r => some r) fun _ => True := ua_.2 (h.mono fun _ _ => ub_.2 trivial)
theorem ub3s_ (c : Int) : Tot ((u5_ c).bind fun r => some r) fun _ => True := ⟨_, rfl, trivial⟩
theorem uq_ (c : Int) (h : True) : Tot (u5_ c) fun _ => True := ⟨_, rfl, trivial⟩
theorem u2_ (c : Int) (h : True) : Tot (ufe_ c) fun _ => True := ⟨_, rfl, trivial⟩
theorem ubrj_ (c : Int) (h : True) : Tot (u9w_ c) fun _ => True := ⟨_, rfl, trivial⟩
theorem uyt_ (c : Int) (h : True) : Tot (uwr_ c) fun _ => True := ⟨_, rfl, trivial⟩
theorem ub4s_ (b : UInt8) (h : ((u5_ (b.toNat : Int)).bind fun r => some r) = some true) : IsDig b := by
 unfold u5_ at h
 simp at h
 unfold IsDig
 omega
theorem ubj_ (s : Str) (h : s.length ≤ 1048576) : Tot (ub3_ s) (fun r : Int × Bool => 0 ≤ r.1 ∧ r.1 ≤ 999999999999999999) := by
 unfold ub3_
 dsimp only
 cases hv : (eqS s [] || decide ((18 : Int) < (s.length : Int))) with
 | true => simp only [Bool.not_true, cond_false, Bool.true_or, cond_true]; exact ua_.2 (ub_.2 (ub_.2 (by decide)))
 | false =>
   simp only [Bool.not_false, cond_true, Bool.false_or]
   refine ua_.2 ((uxq_ _ ⟨Int.le_refl _, by dsimp only; omega, h, ub3s_⟩).mono fun r hr => ?_)
   refine ug_.2 ⟨fun _ => ub_.2 (by decide), fun e => ?_⟩
   refine ua_.2 ((ubv5_ s h).mono fun r3 h3 => ub_.2 ?_)
   have hv1 := (Bool.or_eq_false_iff.1 hv)
   have e1 : r = s.length := by simpa [up_] using e
   dsimp only at hr
   refine h3 (by simpa [uy_] using hv1.1) (fun b hb => ?_) (by have := of_decide_eq_false hv1.2; omega)
   obtain ⟨j, hj, hjb⟩ := List.mem_iff_getElem.1 hb
   exact ub4s_ b (hr.2.2.1 j (by omega) (by omega) b (by rw [← hjb]; exact List.getElem?_eq_getElem hj))
end Go.Ev.Pv
namespace Go.Ev.Pv
theorem uit_ (x : (List YY2) × Int × YY17 × Int) (h : (∀ p, Tot (x.2.2.1 p) fun _ => True) ∧ 0 ≤ x.2.1 ∧ x.2.1 ≤ x.2.2.2 ∧ x.2.2.2 < x.1.length ∧ x.1.length ≤ 1048576) :
 Tot (ucd_ x) (fun r : List YY2 => r.length = x.1.length ∧ ∀ q ∈ r, q ∈ x.1) := by
 refine uv_ (R := fun r : List YY2 => r.length = x.1.length ∧ ∀ q ∈ r, q ∈ x.1) (fun y : (List YY2) × Int × YY17 × Int => (∀ p, Tot (y.2.2.1 p) fun _ => True) ∧ 0 ≤ y.2.1 ∧ y.2.1 ≤ y.2.2.2 ∧ y.2.2.2 < y.1.length ∧ y.1.length ≤ 1048576 ∧ y.1.length = x.1.length ∧ ∀ q ∈ y.1, q ∈ x.1)
  (fun y => y.2.2.2.toNat) ?_ _ _ ⟨h.1, h.2.1, h.2.2.1, h.2.2.2.1, h.2.2.2.2, rfl, fun q hq => hq⟩ (by obtain ⟨_, _, _, _, _⟩ := h; unfold fuel; omega)
 rintro next ⟨data_0, a_1, cmp_3, j_9⟩ h hn
 dsimp only at h hn
 obtain ⟨h0, h1, h2, h3, h4, h5, h6⟩ := h
 unfold ueu_
 dsimp only
 by_cases hc : a_1 < j_9
 · have hw : IntKind.i64.wrap (j_9 - 1) = j_9 - 1 := ubm_ (by omega) (by omega)
   simp only [hw, decide_eq_true hc, cond_true, Bool.true_and]
   refine ua_.2 (uft_.2 ⟨⟨by omega, by omega⟩, ?_⟩)
   refine ua_.2 (uft_.2 ⟨⟨by omega, by omega⟩, ?_⟩)
   refine ua_.2 ((h0 _).mono fun r3 _ => ?_)
   refine ug_.2 ⟨fun _ => ?_, fun _ => ub_.2 ⟨h5, h6⟩⟩
   refine ua_.2 (uft_.2 ⟨⟨by omega, by omega⟩, ?_⟩)
   refine ua_.2 (uft_.2 ⟨⟨by omega, by omega⟩, ?_⟩)
   refine ua_.2 (uft_.2 ⟨⟨by omega, by omega⟩, ?_⟩)
   refine ua_.2 (uft_.2 ⟨⟨by omega, by rw [List.length_set]; omega⟩, ?_⟩)
   refine hn _ ⟨h0, h1, by dsimp only; omega, by simp only [List.length_set]; omega, by simp only [List.length_set]; omega, by simp only [List.length_set]; omega, fun q hq => ?_⟩ (by dsimp only; omega)
   rcases uf_ hq with hq | rfl
   · rcases uf_ hq with hq | rfl
     · exact h6 q hq
     · exact h6 _ (uj_ (by omega))
   · exact h6 _ (uj_ (by omega))
 · simp only [decide_eq_false hc, cond_false, Bool.false_and]
   refine ua_.2 (ub_.2 ?_)
   refine ua_.2 (ub_.2 ?_)
   refine ua_.2 (ub_.2 ?_)
   exact ub_.2 ⟨h5, h6⟩
theorem uiu_ (x : (List YY2) × Int × Int × YY17 × Int) (h : (∀ p, Tot (x.2.2.2.1 p) fun _ => True) ∧ 0 ≤ x.2.1 ∧ x.2.1 ≤ x.2.2.2.2 ∧ x.2.2.1 ≤ x.1.length ∧ x.2.2.2.2 ≤ 1048577 ∧ x.1.length ≤ 1048576) :
 Tot (uce_ x) (fun r : List YY2 => r.length = x.1.length ∧ ∀ q ∈ r, q ∈ x.1) := by
 refine uv_ (R := fun r : List YY2 => r.length = x.1.length ∧ ∀ q ∈ r, q ∈ x.1) (fun y : (List YY2) × Int × Int × YY17 × Int => (∀ p, Tot (y.2.2.2.1 p) fun _ => True) ∧ 0 ≤ y.2.1 ∧ y.2.1 ≤ y.2.2.2.2 ∧ y.2.2.1 ≤ y.1.length ∧ y.2.2.2.2 ≤ 1048577 ∧ y.1.length ≤ 1048576 ∧ y.1.length = x.1.length ∧ ∀ q ∈ y.1, q ∈ x.1)
  (fun y => (y.2.2.1 - y.2.2.2.2).toNat) ?_ _ _ ⟨h.1, h.2.1, h.2.2.1, h.2.2.2.1, h.2.2.2.2.1, h.2.2.2.2.2, rfl, fun q hq => hq⟩ (by obtain ⟨_, _, _, _, _, _⟩ := h; unfold fuel; omega)
 rintro next ⟨data_0, a_1, b_2, cmp_3, i_8⟩ h hn
 dsimp only at h hn
 obtain ⟨h0, h1, h2, h3, h4, h5, h6, h7⟩ := h
 unfold uev_
 dsimp only
 refine ug_.2 ⟨fun hc => ?_, fun _ => ub_.2 ⟨h6, h7⟩⟩
 have hc := of_decide_eq_true hc
 have hw : IntKind.i64.wrap (i_8 + 1) = i_8 + 1 := ubm_ (by omega) (by omega)
 rw [hw]
 refine ua_.2 ((uit_ _ ⟨h0, h1, h2, by dsimp only; omega, h5⟩).mono fun r hr => ?_)
 dsimp only at hr
 obtain ⟨e1, e2⟩ := hr
 exact hn _ ⟨h0, h1, by dsimp only; omega, by dsimp only; omega, by dsimp only; omega, by dsimp only; omega, by dsimp only; omega, fun q hq => h7 q (e2 q hq)⟩ (by dsimp only; omega)
theorem uej_ (x : (List YY2) × Int × Int × YY17) (h : (∀ p, Tot (x.2.2.2 p) fun _ => True) ∧ 0 ≤ x.2.1 ∧ x.2.1 ≤ 1048576 ∧ x.2.2.1 ≤ x.1.length ∧ x.1.length ≤ 1048576) :
 Tot (ube_ x) (fun r : List YY2 => r.length = x.1.length ∧ ∀ q ∈ r, q ∈ x.1) := by
 obtain ⟨data_0, a_1, b_2, cmp_3⟩ := x
 dsimp only at h
 obtain ⟨h0, h1, h2, h3, h4⟩ := h
 unfold ube_
 dsimp only
 rw [ubm_ (by omega) (by omega)]
 exact ua_.2 ((uiu_ _ ⟨h0, h1, by dsimp only; omega, h3, by dsimp only; omega, h4⟩).mono fun r hr => ub_.2 hr)
theorem uk4_ (x : (List YY2) × Int × Int × Int × Int) (h : 0 ≤ x.2.1 ∧ 0 ≤ x.2.2.1 ∧ x.2.1 + x.2.2.2.1 ≤ x.1.length ∧ x.2.2.1 + x.2.2.2.1 ≤ x.1.length ∧ 0 ≤ x.2.2.2.2 ∧ x.1.length ≤ 1048576) :
 Tot (uc9_ x) (fun r : List YY2 => r.length = x.1.length ∧ ∀ q ∈ r, q ∈ x.1) := by
 refine uv_ (R := fun r : List YY2 => r.length = x.1.length ∧ ∀ q ∈ r, q ∈ x.1) (fun y : (List YY2) × Int × Int × Int × Int => 0 ≤ y.2.1 ∧ 0 ≤ y.2.2.1 ∧ y.2.1 + y.2.2.2.1 ≤ y.1.length ∧ y.2.2.1 + y.2.2.2.1 ≤ y.1.length ∧ 0 ≤ y.2.2.2.2 ∧ y.1.length ≤ 1048576 ∧ y.1.length = x.1.length ∧ ∀ q ∈ y.1, q ∈ x.1)
  (fun y => (y.2.2.2.1 - y.2.2.2.2).toNat) ?_ _ _ ⟨h.1, h.2.1, h.2.2.1, h.2.2.2.1, h.2.2.2.2.1, h.2.2.2.2.2, rfl, fun q hq => hq⟩ (by obtain ⟨_, _, _, _, _, _⟩ := h; unfold fuel; omega)
 rintro next ⟨data_0, a_1, b_2, n_3, i_10⟩ h hn
 dsimp only at h hn
 obtain ⟨h1, h2, h3, h4, h5, h6, h7, h8⟩ := h
 unfold ufv_
 dsimp only
 refine ug_.2 ⟨fun hc => ?_, fun _ => ub_.2 ⟨h7, h8⟩⟩
 have hc := of_decide_eq_true hc
 have hw1 : IntKind.i64.wrap (a_1 + i_10) = a_1 + i_10 := ubm_ (by omega) (by omega)
 have hw2 : IntKind.i64.wrap (b_2 + i_10) = b_2 + i_10 := ubm_ (by omega) (by omega)
 have hw3 : IntKind.i64.wrap (i_10 + 1) = i_10 + 1 := ubm_ (by omega) (by omega)
 rw [hw1, hw2, hw3]
 refine ua_.2 (uft_.2 ⟨⟨by omega, by omega⟩, ?_⟩)
 refine ua_.2 (uft_.2 ⟨⟨by omega, by omega⟩, ?_⟩)
 refine ua_.2 (uft_.2 ⟨⟨by omega, by omega⟩, ?_⟩)
 refine ua_.2 (uft_.2 ⟨⟨by omega, by rw [List.length_set]; omega⟩, ?_⟩)
 refine hn _ ⟨h1, h2, by simp only [List.length_set]; omega, by simp only [List.length_set]; omega, by dsimp only; omega, by simp only [List.length_set]; omega, by simp only [List.length_set]; omega, fun q hq => ?_⟩ (by dsimp only; omega)
 rcases uf_ hq with hq | rfl
 · rcases uf_ hq with hq | rfl
   · exact h8 q hq
   · exact h8 _ (uj_ (by omega))
 · exact h8 _ (uj_ (by omega))
theorem uc2_ (x : (List YY2) × Int × Int × Int × YY17) (h : 0 ≤ x.2.1 ∧ 0 ≤ x.2.2.1 ∧ x.2.1 + x.2.2.2.1 ≤ x.1.length ∧ x.2.2.1 + x.2.2.2.1 ≤ x.1.length ∧ x.1.length ≤ 1048576) :
 Tot (ubc_ x) (fun r : List YY2 => r.length = x.1.length ∧ ∀ q ∈ r, q ∈ x.1) := by
 obtain ⟨data_0, a_1, b_2, n_3, cmp_4⟩ := x
 obtain ⟨h1, h2, h3, h4, h5⟩ := h
 unfold ubc_
 dsimp only
 exact ua_.2 ((uk4_ _ ⟨h1, h2, h3, h4, Int.le_refl _, h5⟩).mono fun r hr => ub_.2 hr)
theorem umy_ (x : (List YY2) × Int × YY17 × Int × Int) (h : 0 < x.2.2.2.1 ∧ 0 < x.2.2.2.2 ∧ x.2.2.2.1 ≤ x.2.1 ∧ x.2.1 + x.2.2.2.2 ≤ x.1.length ∧ x.1.length ≤ 1048576) :
 Tot (ud5_ x) (fun r : (List YY2) × Int => r.1.length = x.1.length ∧ (∀ q ∈ r.1, q ∈ x.1) ∧ 0 < r.2 ∧ r.2 ≤ x.2.1 ∧ x.2.1 + r.2 ≤ x.1.length) := by
 refine uv_ (R := fun r : (List YY2) × Int => r.1.length = x.1.length ∧ (∀ q ∈ r.1, q ∈ x.1) ∧ 0 < r.2 ∧ r.2 ≤ x.2.1 ∧ x.2.1 + r.2 ≤ x.1.length) (fun y : (List YY2) × Int × YY17 × Int × Int => 0 < y.2.2.2.1 ∧ 0 < y.2.2.2.2 ∧ y.2.2.2.1 ≤ y.2.1 ∧ y.2.1 + y.2.2.2.2 ≤ y.1.length ∧ y.1.length ≤ 1048576 ∧ y.1.length = x.1.length ∧ (∀ q ∈ y.1, q ∈ x.1) ∧ y.2.1 = x.2.1)
  (fun y => (y.2.2.2.1 + y.2.2.2.2).toNat) ?_ _ _ ⟨h.1, h.2.1, h.2.2.1, h.2.2.2.1, h.2.2.2.2, rfl, (fun q hq => hq), rfl⟩ (by obtain ⟨_, _, _, _, _⟩ := h; unfold fuel; omega)
 rintro next ⟨data_0, m_2, cmp_4, i_10, j_11⟩ h hn
 dsimp only at h hn
 obtain ⟨h1, h2, h3, h4, h5, h6, h7, h8⟩ := h
 unfold ug0_
 dsimp only
 refine ug_.2 ⟨fun hc => ?_, fun hc => ub_.2 ⟨h6, h7, h1, by dsimp only; omega, ?_⟩⟩
 · have hc : i_10 ≠ j_11 := by rw [up_] at hc; simpa using hc
   have hw1 : IntKind.i64.wrap (m_2 - i_10) = m_2 - i_10 := ubm_ (by omega) (by omega)
   have hw2 : IntKind.i64.wrap (m_2 + j_11) = m_2 + j_11 := ubm_ (by omega) (by omega)
   have hw3 : IntKind.i64.wrap (m_2 + j_11 - i_10) = m_2 + j_11 - i_10 := ubm_ (by omega) (by omega)
   have hw4 : IntKind.i64.wrap (i_10 - j_11) = i_10 - j_11 := ubm_ (by omega) (by omega)
   have hw5 : IntKind.i64.wrap (j_11 - i_10) = j_11 - i_10 := ubm_ (by omega) (by omega)
   rw [hw1, hw2, hw3, hw4, hw5]
   refine ug_.2 ⟨fun hd => ?_, fun hd => ?_⟩
   · have hd := of_decide_eq_true hd
     refine ua_.2 ((uc2_ _ ⟨by dsimp only; omega, by dsimp only; omega, by dsimp only; omega, by dsimp only; omega, h5⟩).mono fun r hr => ?_)
     dsimp only at hr
     exact hn _ ⟨by dsimp only; omega, h2, by dsimp only; omega, by dsimp only; omega, by dsimp only; omega, by dsimp only; omega, fun q hq => h7 q (hr.2 q hq), h8⟩ (by dsimp only; omega)
   · have hd := of_decide_eq_false hd
     refine ua_.2 ((uc2_ _ ⟨by dsimp only; omega, by dsimp only; omega, by dsimp only; omega, by dsimp only; omega, h5⟩).mono fun r hr => ?_)
     dsimp only at hr
     exact hn _ ⟨h1, by dsimp only; omega, h3, by dsimp only; omega, by dsimp only; omega, by dsimp only; omega, fun q hq => h7 q (hr.2 q hq), h8⟩ (by dsimp only; omega)
 · have hc : i_10 = j_11 := by rw [up_] at hc; simpa using hc
   omega
theorem uo8_ (x : (List YY2) × Int × Int × Int × YY17) (h : 0 ≤ x.2.1 ∧ x.2.1 < x.2.2.1 ∧ x.2.2.1 < x.2.2.2.1 ∧ x.2.2.2.1 ≤ x.1.length ∧ x.1.length ≤ 1048576) :
 Tot (ucn_ x) (fun r : List YY2 => r.length = x.1.length ∧ ∀ q ∈ r, q ∈ x.1) := by
 obtain ⟨data_0, a_1, m_2, b_3, cmp_4⟩ := x
 dsimp only at h
 obtain ⟨h1, h2, h3, h4, h5⟩ := h
 unfold ucn_
 dsimp only
 rw [ubm_ (n := m_2 - a_1) (by omega) (by omega), ubm_ (n := b_3 - m_2) (by omega) (by omega)]
 refine ua_.2 ((umy_ _ ⟨by dsimp only; omega, by dsimp only; omega, by dsimp only; omega, by dsimp only; omega, h5⟩).mono fun r hr => ?_)
 dsimp only at hr
 obtain ⟨e1, e2, e3, e4, e5⟩ := hr
 rw [ubm_ (n := m_2 - r.2) (by omega) (by omega)]
 refine ua_.2 ((uc2_ _ ⟨by dsimp only; omega, by dsimp only; omega, by dsimp only; omega, by dsimp only; omega, by dsimp only; omega⟩).mono fun r4 hr => ub_.2 ?_)
 dsimp only at hr
 exact ⟨by omega, fun q hq => e2 q (hr.2 q hq)⟩
theorem ulf_ (slf : (List YY2) × Int × Int × Int × YY17 → Option (List YY2)) (x : (List YY2) × Int × YY17 × Int × Int) (h : (∀ p, Tot (x.2.2.1 p) fun _ => True) ∧ 0 ≤ x.2.1 ∧ x.2.1 < x.1.length ∧ 0 ≤ x.2.2.2.1 ∧ x.2.2.2.1 ≤ x.2.2.2.2 ∧ x.2.2.2.2 ≤ x.1.length ∧ x.1.length ≤ 1048576) :
 Tot (udm_ slf x) (fun r : (List YY2) × Int => r.1 = x.1 ∧ x.2.2.2.1 ≤ r.2 ∧ r.2 ≤ x.2.2.2.2) := by
 refine uv_ (R := fun r : (List YY2) × Int => r.1 = x.1 ∧ x.2.2.2.1 ≤ r.2 ∧ r.2 ≤ x.2.2.2.2) (fun y : (List YY2) × Int × YY17 × Int × Int => (∀ p, Tot (y.2.2.1 p) fun _ => True) ∧ 0 ≤ y.2.1 ∧ y.2.1 < y.1.length ∧ 0 ≤ y.2.2.2.1 ∧ y.2.2.2.1 ≤ y.2.2.2.2 ∧ y.2.2.2.2 ≤ y.1.length ∧ y.1.length ≤ 1048576 ∧ y.1 = x.1 ∧ x.2.2.2.1 ≤ y.2.2.2.1 ∧ y.2.2.2.2 ≤ x.2.2.2.2)
  (fun y => (y.2.2.2.2 - y.2.2.2.1).toNat) ?_ _ _ ⟨h.1, h.2.1, h.2.2.1, h.2.2.2.1, h.2.2.2.2.1, h.2.2.2.2.2.1, h.2.2.2.2.2.2, rfl, Int.le_refl _, Int.le_refl _⟩ (by obtain ⟨_, _, _, _, _, _, _⟩ := h; unfold fuel; omega)
 rintro next ⟨data_0, a_1, cmp_4, i_10, j_11⟩ h hn
 dsimp only at h hn
 obtain ⟨h0, h1, h2, h3, h4, h5, h6, h7, h8, h9⟩ := h
 unfold ugf_
 dsimp only
 refine ug_.2 ⟨fun hc => ?_, fun hc => ub_.2 ⟨h7, h8, by dsimp only; omega⟩⟩
 have hc := of_decide_eq_true hc
 refine ua_.2 (ubhi_ (by omega) (by omega) (by omega) (by omega) ?_)
 have hw1 : IntKind.i64.wrap ((i_10 + j_11) / 2) = (i_10 + j_11) / 2 := ubm_ (by omega) (by omega)
 have hw2 : IntKind.i64.wrap ((i_10 + j_11) / 2 + 1) = (i_10 + j_11) / 2 + 1 := ubm_ (by omega) (by omega)
 rw [hw1, hw2]
 refine ua_.2 (uft_.2 ⟨⟨by omega, by omega⟩, ?_⟩)
 refine ua_.2 (uft_.2 ⟨⟨by omega, by omega⟩, ?_⟩)
 refine ua_.2 ((h0 _).mono fun r4 _ => ?_)
 refine ug_.2 ⟨fun _ => ?_, fun _ => ?_⟩
 · exact hn _ ⟨h0, h1, h2, by dsimp only; omega, by dsimp only; omega, h5, h6, h7, by dsimp only; omega, h9⟩ (by dsimp only; omega)
 · exact hn _ ⟨h0, h1, h2, h3, by dsimp only; omega, by dsimp only; omega, h6, h7, h8, by dsimp only; omega⟩ (by dsimp only; omega)
theorem ulg_ (slf : (List YY2) × Int × Int × Int × YY17 → Option (List YY2)) (x : (List YY2) × Int × Int) (h : 0 ≤ x.2.1 ∧ x.2.1 ≤ x.1.length ∧ 0 ≤ x.2.2 ∧ x.1.length ≤ 1048576) :
 Tot (udn_ slf x) (fun r : List YY2 => r.length = x.1.length ∧ ∀ q ∈ r, q ∈ x.1) := by
 refine uv_ (R := fun r : List YY2 => r.length = x.1.length ∧ ∀ q ∈ r, q ∈ x.1) (fun y : (List YY2) × Int × Int => 0 ≤ y.2.1 ∧ y.2.1 ≤ y.1.length ∧ 0 ≤ y.2.2 ∧ y.1.length ≤ 1048576 ∧ y.1.length = x.1.length ∧ ∀ q ∈ y.1, q ∈ x.1)
  (fun y => (y.2.1 - y.2.2).toNat) ?_ _ _ ⟨h.1, h.2.1, h.2.2.1, h.2.2.2, rfl, fun q hq => hq⟩ (by obtain ⟨_, _, _, _⟩ := h; unfold fuel; omega)
 rintro next ⟨data_0, i_10, k_13⟩ h hn
 dsimp only at h hn
 obtain ⟨h1, h2, h3, h4, h5, h6⟩ := h
 unfold ugg_
 dsimp only
 rw [ubm_ (n := i_10 - 1) (by omega) (by omega)]
 refine ug_.2 ⟨fun hc => ?_, fun hc => ub_.2 ⟨h5, h6⟩⟩
 have hc := of_decide_eq_true hc
 have hw : IntKind.i64.wrap (k_13 + 1) = k_13 + 1 := ubm_ (by omega) (by omega)
 rw [hw]
 refine ua_.2 (uft_.2 ⟨⟨by omega, by omega⟩, ?_⟩)
 refine ua_.2 (uft_.2 ⟨⟨by omega, by omega⟩, ?_⟩)
 refine ua_.2 (uft_.2 ⟨⟨by omega, by omega⟩, ?_⟩)
 refine ua_.2 (uft_.2 ⟨⟨by omega, by rw [List.length_set]; omega⟩, ?_⟩)
 refine hn _ ⟨h1, by simp only [List.length_set]; omega, by dsimp only; omega, by simp only [List.length_set]; omega, by simp only [List.length_set]; omega, fun q hq => ?_⟩ (by dsimp only; omega)
 rcases uf_ hq with hq | rfl
 · rcases uf_ hq with hq | rfl
   · exact h6 q hq
   · exact h6 _ (uj_ (by omega))
 · exact h6 _ (uj_ (by omega))
theorem uk5_ (slf : (List YY2) × Int × Int × Int × YY17 → Option (List YY2)) (x : (List YY2) × Int × Int) (h : 0 ≤ x.2.1 ∧ x.2.2 < x.1.length ∧ x.1.length ≤ 1048576) :
 Tot (uda_ slf x) (fun r : List YY2 => r.length = x.1.length ∧ ∀ q ∈ r, q ∈ x.1) := by
 refine uv_ (R := fun r : List YY2 => r.length = x.1.length ∧ ∀ q ∈ r, q ∈ x.1) (fun y : (List YY2) × Int × Int => 0 ≤ y.2.1 ∧ y.2.2 < y.1.length ∧ y.1.length ≤ 1048576 ∧ y.1.length = x.1.length ∧ ∀ q ∈ y.1, q ∈ x.1)
  (fun y => (y.2.2 - y.2.1).toNat) ?_ _ _ ⟨h.1, h.2.1, h.2.2, rfl, fun q hq => hq⟩ (by obtain ⟨_, _, _⟩ := h; unfold fuel; omega)
 rintro next ⟨data_0, i_14, k_17⟩ h hn
 dsimp only at h hn
 obtain ⟨h1, h2, h4, h5, h6⟩ := h
 unfold ufw_
 dsimp only
 refine ug_.2 ⟨fun hc => ?_, fun hc => ub_.2 ⟨h5, h6⟩⟩
 have hc := of_decide_eq_true hc
 have hw : IntKind.i64.wrap (k_17 - 1) = k_17 - 1 := ubm_ (by omega) (by omega)
 rw [hw]
 refine ua_.2 (uft_.2 ⟨⟨by omega, by omega⟩, ?_⟩)
 refine ua_.2 (uft_.2 ⟨⟨by omega, by omega⟩, ?_⟩)
 refine ua_.2 (uft_.2 ⟨⟨by omega, by omega⟩, ?_⟩)
 refine ua_.2 (uft_.2 ⟨⟨by omega, by rw [List.length_set]; omega⟩, ?_⟩)
 refine hn _ ⟨h1, by simp only [List.length_set]; omega, by simp only [List.length_set]; omega, by simp only [List.length_set]; omega, fun q hq => ?_⟩ (by dsimp only; omega)
 rcases uf_ hq with hq | rfl
 · rcases uf_ hq with hq | rfl
   · exact h6 q hq
   · exact h6 _ (uj_ (by omega))
 · exact h6 _ (uj_ (by omega))
theorem ulh_ (slf : (List YY2) × Int × Int × Int × YY17 → Option (List YY2)) (x : (List YY2) × Int × YY17 × Int × Int) (h : (∀ p, Tot (x.2.2.1 p) fun _ => True) ∧ 0 ≤ x.2.1 ∧ x.2.1 < x.1.length ∧ 0 ≤ x.2.2.2.1 ∧ x.2.2.2.1 ≤ x.2.2.2.2 ∧ x.2.2.2.2 ≤ x.1.length ∧ x.1.length ≤ 1048576) :
 Tot (udo_ slf x) (fun r : (List YY2) × Int => r.1 = x.1 ∧ x.2.2.2.1 ≤ r.2 ∧ r.2 ≤ x.2.2.2.2) := by
 refine uv_ (R := fun r : (List YY2) × Int => r.1 = x.1 ∧ x.2.2.2.1 ≤ r.2 ∧ r.2 ≤ x.2.2.2.2) (fun y : (List YY2) × Int × YY17 × Int × Int => (∀ p, Tot (y.2.2.1 p) fun _ => True) ∧ 0 ≤ y.2.1 ∧ y.2.1 < y.1.length ∧ 0 ≤ y.2.2.2.1 ∧ y.2.2.2.1 ≤ y.2.2.2.2 ∧ y.2.2.2.2 ≤ y.1.length ∧ y.1.length ≤ 1048576 ∧ y.1 = x.1 ∧ x.2.2.2.1 ≤ y.2.2.2.1 ∧ y.2.2.2.2 ≤ x.2.2.2.2)
  (fun y => (y.2.2.2.2 - y.2.2.2.1).toNat) ?_ _ _ ⟨h.1, h.2.1, h.2.2.1, h.2.2.2.1, h.2.2.2.2.1, h.2.2.2.2.2.1, h.2.2.2.2.2.2, rfl, Int.le_refl _, Int.le_refl _⟩ (by obtain ⟨_, _, _, _, _, _, _⟩ := h; unfold fuel; omega)
 rintro next ⟨data_0, m_2, cmp_4, i_14, j_15⟩ h hn
 dsimp only at h hn
 obtain ⟨h0, h1, h2, h3, h4, h5, h6, h7, h8, h9⟩ := h
 unfold ugh_
 dsimp only
 refine ug_.2 ⟨fun hc => ?_, fun hc => ub_.2 ⟨h7, h8, by dsimp only; omega⟩⟩
 have hc := of_decide_eq_true hc
 refine ua_.2 (ubhi_ (by omega) (by omega) (by omega) (by omega) ?_)
 have hw1 : IntKind.i64.wrap ((i_14 + j_15) / 2) = (i_14 + j_15) / 2 := ubm_ (by omega) (by omega)
 have hw2 : IntKind.i64.wrap ((i_14 + j_15) / 2 + 1) = (i_14 + j_15) / 2 + 1 := ubm_ (by omega) (by omega)
 rw [hw1, hw2]
 refine ua_.2 (uft_.2 ⟨⟨by omega, by omega⟩, ?_⟩)
 refine ua_.2 (uft_.2 ⟨⟨by omega, by omega⟩, ?_⟩)
 refine ua_.2 ((h0 _).mono fun r13 _ => ?_)
 refine ug_.2 ⟨fun _ => ?_, fun _ => ?_⟩
 · exact hn _ ⟨h0, h1, h2, by dsimp only; omega, by dsimp only; omega, h5, h6, h7, by dsimp only; omega, h9⟩ (by dsimp only; omega)
 · exact hn _ ⟨h0, h1, h2, h3, by dsimp only; omega, by dsimp only; omega, h6, h7, h8, by dsimp only; omega⟩ (by dsimp only; omega)
theorem uk6_ (slf : (List YY2) × Int × Int × Int × YY17 → Option (List YY2)) (x : (List YY2) × YY17 × Int × Int × Int) (h : (∀ p, Tot (x.2.1 p) fun _ => True) ∧ 0 ≤ x.2.2.1 ∧ x.2.2.1 ≤ x.2.2.2.1 ∧ x.2.2.2.1 ≤ x.1.length ∧ x.2.2.2.1 - 1 ≤ x.2.2.2.2 ∧ x.2.2.2.2 - x.2.2.1 < x.1.length ∧ x.1.length ≤ 1048576) :
 Tot (udb_ slf x) (fun r : (List YY2) × Int => r.1 = x.1 ∧ x.2.2.1 ≤ r.2 ∧ r.2 ≤ x.2.2.2.1) := by
 refine uv_ (R := fun r : (List YY2) × Int => r.1 = x.1 ∧ x.2.2.1 ≤ r.2 ∧ r.2 ≤ x.2.2.2.1) (fun y : (List YY2) × YY17 × Int × Int × Int => (∀ p, Tot (y.2.1 p) fun _ => True) ∧ 0 ≤ y.2.2.1 ∧ y.2.2.1 ≤ y.2.2.2.1 ∧ y.2.2.2.1 ≤ y.1.length ∧ y.2.2.2.1 - 1 ≤ y.2.2.2.2 ∧ y.2.2.2.2 - y.2.2.1 < y.1.length ∧ y.1.length ≤ 1048576 ∧ y.1 = x.1 ∧ x.2.2.1 ≤ y.2.2.1 ∧ y.2.2.2.1 ≤ x.2.2.2.1)
  (fun y => (y.2.2.2.1 - y.2.2.1).toNat) ?_ _ _ ⟨h.1, h.2.1, h.2.2.1, h.2.2.2.1, h.2.2.2.2.1, h.2.2.2.2.2.1, h.2.2.2.2.2.2, rfl, Int.le_refl _, Int.le_refl _⟩ (by obtain ⟨_, _, _, _, _, _, _⟩ := h; unfold fuel; omega)
 rintro next ⟨data_0, cmp_4, start_20, r_21, p_22⟩ h hn
 dsimp only at h hn
 obtain ⟨h0, h1, h2, h3, h4, h5, h6, h7, h8, h9⟩ := h
 unfold ufx_
 dsimp only
 refine ug_.2 ⟨fun hc => ?_, fun hc => ub_.2 ⟨h7, h8, by dsimp only; omega⟩⟩
 have hc := of_decide_eq_true hc
 refine ua_.2 (ubhi_ (by omega) (by omega) (by omega) (by omega) ?_)
 have hw1 : IntKind.i64.wrap ((start_20 + r_21) / 2) = (start_20 + r_21) / 2 := ubm_ (by omega) (by omega)
 have hw2 : IntKind.i64.wrap ((start_20 + r_21) / 2 + 1) = (start_20 + r_21) / 2 + 1 := ubm_ (by omega) (by omega)
 have hw3 : IntKind.i64.wrap (p_22 - (start_20 + r_21) / 2) = p_22 - (start_20 + r_21) / 2 := ubm_ (by omega) (by omega)
 rw [hw1, hw2, hw3]
 refine ua_.2 (uft_.2 ⟨⟨by omega, by omega⟩, ?_⟩)
 refine ua_.2 (uft_.2 ⟨⟨by omega, by omega⟩, ?_⟩)
 refine ua_.2 ((h0 _).mono fun r4 _ => ?_)
 refine ug_.2 ⟨fun _ => ?_, fun _ => ?_⟩
 · exact hn _ ⟨h0, by dsimp only; omega, by dsimp only; omega, h3, h4, by dsimp only; omega, h6, h7, by dsimp only; omega, h9⟩ (by dsimp only; omega)
 · exact hn _ ⟨h0, h1, by dsimp only; omega, by dsimp only; omega, by dsimp only; omega, h5, h6, h7, h8, by dsimp only; omega⟩ (by dsimp only; omega)
theorem uk7_ (slf : (List YY2) × Int × Int × Int × YY17 → Option (List YY2)) (x : (List YY2) × Int × YY17 × Int × Int × Bool) (h : x.1.length ≤ 1048576 ∧ (x.2.2.2.2.2 = true → 0 ≤ x.2.2.2.1 ∧ x.2.2.2.1 < x.2.1 ∧ x.2.1 < x.2.2.2.2.1 ∧ x.2.2.2.2.1 ≤ x.1.length)) :
 Tot (ubr_ slf x) (fun r : List YY2 => r.length = x.1.length ∧ ∀ q ∈ r, q ∈ x.1) := by
 obtain ⟨data_0, m_2, cmp_4, start_20, end_24, t185⟩ := x
 dsimp only at h
 unfold ubr_
 dsimp only
 refine ug_.2 ⟨fun hc => ?_, fun _ => ub_.2 ⟨rfl, fun q hq => hq⟩⟩
 obtain ⟨h1, h2, h3, h4⟩ := h.2 hc
 exact ua_.2 ((uo8_ _ ⟨h1, h2, h3, h4, h.1⟩).mono fun r hr => ub_.2 hr)
theorem uju_ (slf : (List YY2) × Int × Int × Int × YY17 → Option (List YY2)) (K : Int) (ih : ∀ y : (List YY2) × Int × Int × Int × YY17, ((∀ p, Tot (y.2.2.2.2 p) fun _ => True) ∧ 0 ≤ y.2.1 ∧ y.2.1 < y.2.2.1 ∧ y.2.2.1 < y.2.2.2.1 ∧ y.2.2.2.1 ≤ y.1.length ∧ y.1.length ≤ 1048576) → y.2.2.2.1 - y.2.1 ≤ K → Tot (slf y) (fun r : List YY2 => r.length = y.1.length ∧ ∀ q ∈ r, q ∈ y.1)) (x : (List YY2) × Int × Int × Int × YY17) (h : (∀ p, Tot (x.2.2.2.2 p) fun _ => True) ∧ 0 ≤ x.2.1 ∧ x.2.1 < x.2.2.1 ∧ x.2.2.1 < x.2.2.2.1 ∧ x.2.2.2.1 ≤ x.1.length ∧ x.1.length ≤ 1048576) (hK : x.2.2.2.1 - x.2.1 ≤ 2 * K) :
 Tot (ucq_ slf x) (fun r : List YY2 => r.length = x.1.length ∧ ∀ q ∈ r, q ∈ x.1) := by
 obtain ⟨data_0, a_1, m_2, b_3, cmp_4⟩ := x
 dsimp only at h hK
 obtain ⟨h0, h1, h2, h3, h4, h5⟩ := h
 unfold ucq_
 dsimp only
 rw [ubm_ (n := m_2 - a_1) (by omega) (by omega), ubm_ (n := b_3 - m_2) (by omega) (by omega)]
 refine ug_.2 ⟨fun _ => ?_, fun _ => ug_.2 ⟨fun _ => ?_, fun _ => ?_⟩⟩
 · refine ua_.2 ((ulf_ slf _ ⟨h0, h1, by dsimp only; omega, by dsimp only; omega, by dsimp only; omega, h4, h5⟩).mono fun r5 hr => ?_)
   dsimp only at hr
   obtain ⟨e1, e2, e3⟩ := hr
   refine ua_.2 ((ulg_ slf _ ⟨by dsimp only; omega, by dsimp only; rw [e1]; omega, h1, by dsimp only; rw [e1]; exact h5⟩).mono fun r9 hr => ub_.2 ?_)
   dsimp only at hr
   rw [e1] at hr; exact hr
 · refine ua_.2 ((ulh_ slf _ ⟨h0, by dsimp only; omega, by dsimp only; omega, h1, by dsimp only; omega, by dsimp only; omega, h5⟩).mono fun r5 hr => ?_)
   dsimp only at hr
   obtain ⟨e1, e2, e3⟩ := hr
   refine ua_.2 ((uk5_ slf _ ⟨by dsimp only; omega, by dsimp only; rw [e1]; omega, by dsimp only; rw [e1]; exact h5⟩).mono fun r9 hr => ub_.2 ?_)
   dsimp only at hr
   rw [e1] at hr; exact hr
 · refine ua_.2 (ubhi_ (by omega) (by omega) (by omega) (by omega) ?_)
   generalize hmid : (a_1 + b_3) / 2 = mid
   rw [ubm_ (n := mid) (by omega) (by omega), ubm_ (n := mid + m_2) (by omega) (by omega), ubm_ (n := mid + m_2 - 1) (by omega) (by omega)]
   have hp : Tot (ubq_ slf (a_1, m_2, b_3, mid, mid + m_2, decide (mid < m_2))) fun r : Int × Int => 0 ≤ r.1 ∧ a_1 ≤ r.1 ∧ mid + m_2 - b_3 ≤ r.1 ∧ r.1 ≤ r.2 ∧ r.2 ≤ m_2 ∧ r.2 ≤ mid + m_2 ∧ mid + m_2 - 1 - r.1 < data_0.length := by
    unfold ubq_
    dsimp only
    refine ug_.2 ⟨fun hc => ub_.2 ?_, fun hc => ub_.2 ?_⟩
    · have hc := of_decide_eq_true hc
      rw [ubm_ (by omega) (by omega)]
      dsimp only; omega
    · have hc := of_decide_eq_false hc
      dsimp only; omega
   refine ua_.2 (hp.mono fun r20 hr => ?_)
   obtain ⟨f1, f2, f3, f4, f5, f6, f7⟩ := hr
   refine ua_.2 ((uk6_ slf _ ⟨h0, f1, f4, by dsimp only; omega, by dsimp only; omega, f7, h5⟩).mono fun r26 hr => ?_)
   dsimp only at hr
   obtain ⟨e1, e2, e3⟩ := hr
   rw [ubm_ (n := mid + m_2 - r26.2) (by omega) (by omega)]
   refine ua_.2 ((uk7_ slf _ ⟨by dsimp only; rw [e1]; exact h5, fun hc => ?_⟩).mono fun r29 hr => ?_)
   · dsimp only at hc ⊢
     rw [Bool.and_eq_true, decide_eq_true_eq, decide_eq_true_eq] at hc
     rw [e1]
     omega
   dsimp only at hr
   rw [e1] at hr
   obtain ⟨g1, g2⟩ := hr
   have hq : Tot (ubs_ slf (r29, a_1, cmp_4, mid, r26.2, decide (a_1 < r26.2) && decide (r26.2 < mid))) fun r : List YY2 => r.length = data_0.length ∧ ∀ q ∈ r, q ∈ data_0 := by
    unfold ubs_
    dsimp only
    refine ug_.2 ⟨fun hc => ?_, fun _ => ub_.2 ⟨g1, g2⟩⟩
    rw [Bool.and_eq_true, decide_eq_true_eq, decide_eq_true_eq] at hc
    refine ua_.2 ((ih _ ⟨h0, h1, by dsimp only; omega, by dsimp only; omega, by dsimp only; omega, by dsimp only; omega⟩ (by dsimp only; omega)).mono fun r31 hr => ub_.2 ?_)
    dsimp only at hr
    exact ⟨by omega, fun q hq => g2 q (hr.2 q hq)⟩
   refine ua_.2 (hq.mono fun r32 hr => ?_)
   obtain ⟨k1, k2⟩ := hr
   refine ug_.2 ⟨fun hc => ?_, fun _ => ub_.2 ⟨k1, k2⟩⟩
   rw [Bool.and_eq_true, decide_eq_true_eq, decide_eq_true_eq] at hc
   refine ua_.2 ((ih _ ⟨h0, by dsimp only; omega, by dsimp only; omega, by dsimp only; omega, by dsimp only; omega, by dsimp only; omega⟩ (by dsimp only; omega)).mono fun r34 hr => ub_.2 ?_)
   dsimp only at hr
   exact ⟨by omega, fun q hq => k2 q (hr.2 q hq)⟩
theorem umj_ : ∀ (n : Nat) (x : (List YY2) × Int × Int × Int × YY17) (h : (∀ p, Tot (x.2.2.2.2 p) fun _ => True) ∧ 0 ≤ x.2.1 ∧ x.2.1 < x.2.2.1 ∧ x.2.2.1 < x.2.2.2.1 ∧ x.2.2.2.1 ≤ x.1.length ∧ x.1.length ≤ 1048576) (hK : x.2.2.2.1 - x.2.1 ≤ 2 ^ n), Tot (ul_ n x) (fun r : List YY2 => r.length = x.1.length ∧ ∀ q ∈ r, q ∈ x.1) := by
 intro n
 induction n with
 | zero =>
   intro x h hK
   obtain ⟨_, h1, h2, h3, _, _⟩ := h
   rw [Int.pow_zero] at hK
   omega
 | succ n ih =>
   intro x h hK
   refine uju_ (ul_ n) (2 ^ n) (fun y hy hk => ih y hy hk) x h ?_
   rw [Int.pow_succ] at hK
   omega
theorem uf0_ (x : (List YY2) × Int × Int × Int × YY17) (h : (∀ p, Tot (x.2.2.2.2 p) fun _ => True) ∧ 0 ≤ x.2.1 ∧ x.2.1 < x.2.2.1 ∧ x.2.2.1 < x.2.2.2.1 ∧ x.2.2.2.1 ≤ x.1.length ∧ x.1.length ≤ 1048576) : Tot (ubl_ x) (fun r : List YY2 => r.length = x.1.length ∧ ∀ q ∈ r, q ∈ x.1) := by
 unfold ubl_
 refine umj_ 100 x h ?_
 obtain ⟨_, h1, h2, h3, h4, h5⟩ := h
 have : (1048576 : Int) ≤ 2 ^ 100 := by decide
 omega
end Go.Ev.Pv
