/-
  The contracts of Go's library that the law reaches, in the evaluator's terms.
-/
import Derived.Test.YthmppjbjlbaahaaGreatDoorE3
import Derived.Below
import Derived.Test.YthmppjbjlbaahaaGreatDoorD
import Derived.Shelf.SlSortCmp.WholeK
import Derived.Shelf.SlSortCmp.NoneTotal
import Derived.Lib.QuietBelow
import Derived.Shelf.Strings.Builder1
import Derived.Shelf.Strings.Builder2
import Derived.Shelf.Strings.OnBuilder
import Derived.Shelf.Small.Utf8
import Derived.Shelf.Small.Bits
import Derived.Shelf.Small.Strs
import Derived.Shelf.Small.Wraps
import Derived.Shelf.Strings.BuilderF
import Derived.Shelf.Strings.BuilderK
import Derived.Shelf.Strings.BuilderRune
import Derived.Shelf.Utf8.RuneCount
import Derived.Shelf.Strconv.Atoi
import Derived.Shelf.Strconv.Itoa0
import Derived.Shelf.Strconv.Itoa1
import Derived.Shelf.LaysM
import Derived.Shelf.Strconv.Itoa2
import Derived.Shelf.Strconv.Itoa3
import Derived.Shelf.Strconv.AtoiErrFast
import Derived.Shelf.Strconv.ParseIntEmpty
import Derived.Shelf.Strconv.AtoiFail
import Derived.Shelf.Strconv.Clone
import Derived.Shelf.Strconv.SyntaxError
import Derived.Shelf.LaysC
import Derived.Shelf.Strconv.ToError
import Derived.Shelf.Strconv.Lower
import Derived.Shelf.Strconv.ParseUint10
import Derived.Shelf.Strconv.ParseUint10Empty
import Derived.Shelf.Strconv.ParseUint10Any
import Derived.Shelf.Strconv.ParseInt10
import Derived.Shelf.Strconv.AtoiLong
import Derived.Shelf.Strconv.AtoiInnerAll
import Derived.Shelf.Strconv.RangeError
import Derived.Shelf.Strconv.ToErrorRange
import Derived.Shelf.Strconv.AtoiAll
import Derived.Shelf.Strings.Search1
import Derived.Shelf.Strings.Search2
import Derived.Shelf.Strings.Search3
import Derived.Shelf.Strings.Cut
import Derived.Shelf.Strings.Count
import Derived.Shelf.Strings.Shaped
import Derived.Shelf.Strings.LastIndex
import Derived.Shelf.Strings.Prefix
import Derived.Shelf.Strings.Split
import Derived.Shelf.Strings.SplitShaped
import Derived.Shelf.Unicode.Latin
import Derived.Shelf.Unicode.Decode
import Derived.Shelf.Strings.RuneCount
import Derived.Shelf.Strings.Explode
import Derived.Shelf.Bits.Mul64
import Derived.Shelf.Strings.Repeat
import Derived.Shelf.Unicode.DecodeSlow
import Derived.Shelf.Unicode.DecodeAny
import Derived.Shelf.Strings.FieldsFuncAny
import Derived.Shelf.Unicode.CaseLookup
import Derived.Shelf.Unicode.CaseConvert
import Derived.Shelf.Unicode.CaseTo
import Derived.Shelf.Unicode.CaseLaid
import Derived.Shelf.Strings.MapAny
import Derived.Shelf.Strings.CaseAny
import Derived.Ground.Names2Prog
import Derived.Shelf.Slices.Clone
import Derived.Shelf.Slices.SearchI
import Derived.Ground.SlgnProg
import Derived.Shelf.SlicesE.Clone
import Derived.Test.YthmppjbjlbaahaaGreatDoorProg
import Derived.Lib.AppendIntMem
import Derived.Shelf.Strings.FieldsFuncGrows
import Derived.Ground.SlsfProg
set_option linter.unusedVariables false
set_option linter.unusedSimpArgs false
set_option linter.unusedSectionVars false
set_option maxRecDepth 100000
namespace Go.Ev
variable [Pins]
open Go.RowKit
def imNew (I : Im) (X : Nat → Nat → Prop) : Im := ⟨fun b o => I.cell b o ∨ X b o, I.obj⟩
theorem After.below {w w' : World} {I : Im} (hm : Mem w I) (hb : Below w.heap.size w w') {X : Nat → Nat → Prop} (hx : ∀ b o, X b o → w.heap.size ≤ b ∧ b < w'.heap.size) :
 After (· ∈ ([] : List Nat)) w I w' (imNew I X) := by
 have he : Ext w I w' (imNew I X) := ⟨fun b o h => ⟨.inl h, by simp only [World.cell?, hb.block b (hm.1 b o h)]⟩, fun b h => ⟨h, hb.block b (hm.2.1 b h)⟩⟩
 exact ⟨he, fun b hlt _ => hb.block b hlt, hb.size, fun b o h => h.imp id fun h => .inl (hx b o h).1, fun b h => .inl h,
  fun b o h => h.elim (fun h => Nat.lt_of_lt_of_le (hm.1 b o h) hb.size) fun h => (hx b o h).2, fun b h => Nat.lt_of_lt_of_le (hm.2.1 b h) hb.size, hb.os, hb.tape, hb.output, hm.2.2.ext he⟩
theorem FunOK.given {P : Program} {f : Nat} {sp : FSpec} (h : ∀ (w : World) (I : Im) (v : TupR sp.ps) (args : List Value) (bs : List Nat), Mem w I → ShL P w I sp.ps v args bs → ∀ r, sp.F v = some r → bs = [] ∧
 Calls P f args.toArray w fun e w' => ∃ rv vs X, e = .returned rv ∧ vs.length = sp.rs.length ∧ retIs vs rv ∧ Below w.heap.size w w' ∧ (sp.dr = true → w.drawn ≤ w'.drawn) ∧ (∀ b o, X b o → w.heap.size ≤ b ∧ b < w'.heap.size) ∧
  ShL P w' (imNew I X) (sp.rs ++ sp.ps.filter isBox) r (vs ++ uoq_ sp.ps args) []) : FunOK P f sp := by
 intro w I v args bs hm hsh hnd r hr
 obtain ⟨rfl, hc⟩ := h w I v args bs hm hsh r hr
 refine hc.mono fun e w' ⟨rv, vs, X, h1, h2, h3, h4, h7, h5, h6⟩ => ?_
 exact ⟨rv, vs, imNew I X, [], h1, h2, h3, After.below hm h4 h5, h6, .nil, (fun b hb => by cases hb), h7⟩
def noX : Nat → Nat → Prop := fun _ _ => False
theorem ub22_ {w w' : World} : ∀ b o, noX b o → w.heap.size ≤ b ∧ b < w'.heap.size := fun _ _ h => h.elim
section
variable {P : Program} {w : World} {I : Im}
theorem ubf8_ {x : Str} {v : Value} (h : VRel w I .str x v) : v = .string ⟨x.toArray⟩ ∧ x.length ≤ 281474976710656 := by
 obtain ⟨c, h1, h2, h3⟩ := h
 have h1 : c = [v] := h1
 rw [h1] at h2
 cases h2
 exact ⟨rfl, h3⟩
theorem ub89_ {k : IntKind} {n : Int} {v : Value} (h : VRel w I (.int k) n v) : v = .int k n ∧ uop_ k n := by
 obtain ⟨c, h1, h2, h3⟩ := h
 have h1 : c = [v] := h1
 rw [h1] at h2
 cases h2
 exact ⟨rfl, h3⟩
theorem uccn_ {b : Bool} {v : Value} (h : VRel w I .bool b v) : v = .bool b := by
 obtain ⟨c, h1, h2⟩ := h
 have h1 : c = [v] := h1
 have h2 : c = [.bool b] := h2
 rw [h1] at h2
 cases h2
 rfl
theorem ubf9_ {x : Str} (h : x.length ≤ 281474976710656) : VRel w I .str x (.string ⟨x.toArray⟩) := ⟨_, rfl, rfl, h⟩
theorem ub4k_ {k : IntKind} {n : Int} (h : uop_ k n) : VRel w I (.int k) n (.int k n) := ⟨_, rfl, rfl, h⟩
theorem ub23_ {b : Bool} : VRel w I .bool b (.bool b) := ⟨_, rfl, rfl⟩
theorem in1 {a : Ty} {x : a.T} {args : List Value} {bs : List Nat} (h : ShL P w I [.val a] x args bs) : bs = [] ∧ ∃ v, args = [v] ∧ VRel w I a x v := by
 obtain ⟨v, rfl, h1, rfl⟩ := h
 exact ⟨rfl, v, rfl, h1⟩
theorem in2 {a b : Ty} {x : a.T × b.T} {args : List Value} {bs : List Nat} (h : ShL P w I [.val a, .val b] x args bs) : bs = [] ∧ ∃ v u, args = [v, u] ∧ VRel w I a x.1 v ∧ VRel w I b x.2 u := by
 obtain ⟨v, vs, b1, b2, rfl, rfl, ⟨h1, rfl⟩, u, rfl, h2, rfl⟩ := h
 exact ⟨rfl, v, u, rfl, h1, h2⟩
theorem out1 {a : Ty} {x : a.T} {v : Value} (h : VRel w I a x v) : ShL P w I [.val a] x [v] [] := ⟨v, rfl, h, rfl⟩
theorem out2 {a b : Ty} {x : a.T × b.T} {v u : Value} (h : VRel w I a x.1 v) (k : VRel w I b x.2 u) : ShL P w I [.val a, .val b] x [v, u] [] :=
 ⟨v, [u], [], [], rfl, rfl, ⟨h, rfl⟩, u, rfl, k, rfl⟩
theorem out3 {a b c : Ty} {x : a.T × b.T × c.T} {v u t : Value} (h : VRel w I a x.1 v) (k : VRel w I b x.2.1 u) (m : VRel w I c x.2.2 t) : ShL P w I [.val a, .val b, .val c] x [v, u, t] [] :=
 ⟨v, [u, t], [], [], rfl, rfl, ⟨h, rfl⟩, u, [t], [], [], rfl, rfl, ⟨k, rfl⟩, t, rfl, m, rfl⟩
end
theorem FunOK.flat1 {P : Program} {f : Nat} {sp : FSpec} {t : Ty} (hrs : sp.rs = [.val t]) (hps : sp.ps.filter isBox = []) (hbv : ∀ args, uoq_ sp.ps args = [])
 (h : ∀ (w : World) (I : Im) (v : TupR sp.ps) (args : List Value) (bs : List Nat), Mem w I → ShL P w I sp.ps v args bs → ∀ r, sp.F v = some r → bs = [] ∧
  ∃ rv, (∀ w' I', ShL P w' I' (sp.rs ++ sp.ps.filter isBox) r [rv] []) ∧ Calls P f args.toArray w fun e w' => e = .returned rv ∧ Below w.heap.size w w' ∧ (sp.dr = true → w.drawn ≤ w'.drawn)) : FunOK P f sp := by
 refine FunOK.given fun w I v args bs hm hsh r hr => ?_
 obtain ⟨h1, rv, h2, h3⟩ := h w I v args bs hm hsh r hr
 refine ⟨h1, h3.mono fun e w' ⟨he, hb, hd⟩ => ⟨rv, [rv], noX, he, by rw [hrs]; rfl, rfl, hb, hd, ub22_, ?_⟩⟩
 rw [hbv]
 exact h2 w' _
end Go.Ev
namespace Go.Ev.Pv
variable [Pins]
open Go.Proofs Go.RowKit Go.Sort Go.Shelf
theorem ub5d_ {P : Program} {g : Nat} (h : uo_ P g) : ∀ args w, (callFunc g args).run P w = .ok (.enter g args) w := by
 obtain ⟨fn, c, h1, h2, h3⟩ := h
 intro args w
 have h2' : fn.name ≠ "runtime.NumGoroutine" := by simpa using h2
 simp [callFunc, h1, h2', h3]
theorem ub5e_ {α : Type} [Inhabited α] (enc : α → Value) (w : World) (blk off : Nat) (d : Array α) (k : Nat) (h : k ≠ blk) : (putRow enc w blk off d).heap[k]? = w.heap[k]? := by
 simp only [putRow, mapBlock, Array.getElem?_modify]
 rw [if_neg (fun e => h e.symm)]
theorem ubzo_ {α : Type} [Inhabited α] (enc : α → Value) (w : World) (blk off : Nat) (d : Array α) {cs : Array Value} {el : TypeId} {fz : Nat × Nat} (h : w.heap[blk]? = some (.cells cs el fz)) :
 (putRow enc w blk off d).heap[blk]? = some (.cells (putCells enc off d cs) el fz) := by
 simp only [putRow, mapBlock, Array.getElem?_modify, h]
 simp [onCells]
theorem ubvj_ (w : World) (os : Array Go.Obj) (k : Nat) (h : k < w.heap.size) : (grow w os).heap[k]? = w.heap[k]? := by
 simp only [grow]
 rw [Array.getElem?_append_left h]
section
variable {P : Program} {w : World} {I : Im}
theorem ubvk_ {α : Type} [Inhabited α] {enc : α → List Value} {k b : Nat} {n : Nat} {D : Array α} {os : Array Go.Obj} {cs : Array Value} {el : TypeId} {fz : Nat × Nat} (hb : w.heap[b]? = some (.cells cs el fz)) :
 (sortWorldK enc k w b 0 n D os).heap[b]? = some (.cells (putCells id 0 (flatK enc k D) cs) el fz) ∧ (∀ j, j ≠ b → j < w.heap.size → (sortWorldK enc k w b 0 n D os).heap[j]? = w.heap[j]?) ∧
 w.heap.size ≤ (sortWorldK enc k w b 0 n D os).heap.size ∧ (sortWorldK enc k w b 0 n D os).drawn = w.drawn + n := by
 have hlt : b < w.heap.size := (Array.getElem?_eq_some_iff.1 hb).1
 unfold sortWorldK putRowK
 refine ⟨?_, fun j hj hjl => ?_, ?_, rfl⟩
 · rw [ubvj_ _ _ _ (by simpa using hlt)]
   exact ubzo_ id _ b 0 _ hb
 · rw [ubvj_ _ _ _ (by simpa using hjl)]
   exact ub5e_ id _ b 0 _ j hj
 · simp
theorem ubsu_ {α : Type} [Inhabited α] {enc : α → List Value} {k b : Nat} {n : Nat} {D : Array α} {os : Array Go.Obj} {cs : Array Value} {el : TypeId} {fz : Nat × Nat} (hb : w.heap[b]? = some (.cells cs el fz))
 (hm : Mem w I) (hI : ∀ o, ¬ I.cell b o) (hO : ¬ I.obj b) : Ext w I (sortWorldK enc k w b 0 n D os) I ∧ Mem (sortWorldK enc k w b 0 n D os) I := by
 obtain ⟨h1, h2, h3, h4⟩ := ubvk_ (enc := enc) (k := k) (n := n) (D := D) (os := os) hb
 have hx : Ext w I (sortWorldK enc k w b 0 n D os) I := ⟨fun j o h => ⟨h, by simp only [World.cell?, h2 j (fun e => hI o (e ▸ h)) (hm.1 j o h)]⟩, fun j h => ⟨h, h2 j (fun e => hO (e ▸ h)) (hm.2.1 j h)⟩⟩
 exact ⟨hx, fun j o h => Nat.lt_of_lt_of_le (hm.1 j o h) h3, fun j h => Nat.lt_of_lt_of_le (hm.2.1 j h) h3, hm.2.2.ext hx⟩
theorem ub7d_ {ρ : Ren} {f el : Nat} {p : Ty} (L : SlLaysF0.n6 P ρ) (hf : ρ.f 6 = f) (aE : ∀ w, (isAgg (ρ.t 24)).run P w = .ok true w) (zE : ∀ w, (Go.sizeOf (ρ.t 24)).run P w = .ok p.sz w) (hp : 0 < p.sz) :
 FunOK P f ⟨[.io el (.agg p), .hof true (.prod (.agg p) (.agg p)) (.int .i64)], [], fun v => ubxa_ v.1 v.2, true⟩ := by
 subst hf
 intro w I v args bs hm hsh hnd r hr
 obtain ⟨v1, vs, b1, b2, rfl, rfl, h1, v2, rfl, rfl, g, lb, hv2, hent, hof⟩ := hsh
 obtain rfl := List.singleton_inj.1 hv2
 obtain ⟨xs, F⟩ : List p.T × (p.T × p.T → Option Int) := v
 have hr : ubxa_ xs F = some r := hr
 have none_ : ∀ (a : Option Addr) (cap : Nat), v1 = .slice a 0 cap → xs = [] →
  Calls P (ρ.f 6) #[v1, .func (.func g) #[] lb] w fun e w' => ∃ rv vs I' bs', e = .returned rv ∧ vs.length = 0 ∧ retIs vs rv ∧ After (· ∈ b1 ++ []) w I w' I' ∧
   ShL P w' I' [.io el (.agg p)] r (vs ++ [v1]) bs' ∧ bs'.Nodup ∧ (∀ b ∈ bs', b ∈ b1 ++ [] ∨ w.heap.size ≤ b) ∧ (true = true → w.drawn ≤ w'.drawn) := by
  intro a cap hv hxs
  subst hxs
  have hr : r = ([] : List p.T) := by
   have : ubxa_ ([] : List p.T) F = some [] := rfl
   rw [this] at hr; cases hr; rfl
  subst hv
  refine (AnyF.slices_SortFunc_none L a cap _ w).mono fun e w' ⟨he, hw⟩ => ?_
  subst hw
  rw [List.append_nil] at hnd ⊢
  refine ⟨_, [], I, b1, he, rfl, rfl, After.refl hm, ⟨_, rfl, ?_⟩, hnd, fun b hb => .inl hb, fun _ => Nat.le_refl _⟩
  rw [hr]; exact h1
 rcases h1 with ⟨e1, e2, rfl⟩ | ⟨b, cap, cells, e1, rfl, hl, ⟨fz, hb, hfz⟩, hcs, hrow, hI, _, hO⟩
 · exact none_ none 0 (List.singleton_inj.1 e1) e2
 · have e1 : v1 = .slice (some ⟨b, 0, none⟩) xs.length cap := List.singleton_inj.1 e1
   by_cases h0 : 0 < xs.length
   · subst e1
     unfold ubxa_ at hr
     rw [dif_pos h0] at hr
     obtain ⟨⟨hs1, hs2, hs3, hs4⟩, hr⟩ := u68_ hr
     have hr : (ubl0_ xs F h0).toList.map xs.get = r := Option.some.inj hr
     letI : Inhabited (Fin xs.length) := ⟨⟨0, h0⟩⟩
     let k := p.sz
     have hcs : cells.size = cap * k := hcs
     have hcap : xs.length ≤ cap := hl.1
     have hmul : ∀ i, i < xs.length → i * k + k ≤ cells.size := by
      intro i hi
      have : (i + 1) * k ≤ cap * k := Nat.mul_le_mul_right k (by omega)
      rw [hcs]; rw [Nat.add_mul] at this; omega
     let enc : Fin xs.length → List Value := fun i => (cells.toList.drop (i.val * k)).take k
     have hrel : ∀ i : Fin xs.length, Rel w I (.agg p) (xs.get i) (enc i) := fun i => hrow i.val (xs.get i) (List.getElem?_eq_getElem i.isLt)
     have hk : ∀ x, (enc x).length = k := by
      intro x
      have := hmul x.val x.isLt
      simp only [enc, List.length_take, List.length_drop, Array.length_toList]
      omega
     have hone : ∀ x, ∀ v ∈ enc x, v.oneCell' = true := fun x => (hrel x).oneCell
     have hget : ∀ (i : Fin xs.length) (c : Nat), c < k → (enc i)[c]! = cells[i.val * k + c]! := by
      intro i c hc
      have h2 := hmul i.val i.isLt
      have hlt : i.val * k + c < cells.size := by omega
      rw [getElem!_pos (enc i) c (by rw [hk]; exact hc), getElem!_pos cells _ hlt]
      simp [enc]
     have hO' : SWO (ltOf (cfAt xs F)) := ⟨fun x => hs2 x, fun x y z => hs3 x y z, fun x y z => hs4 x y z⟩
     have hcmp : CmpLays P g lb enc k (cfAt xs F) b 0 xs.length w := by
      intro m os dk _ x y
      obtain ⟨hx, hm'⟩ := ubsu_ (enc := enc) (k := k) (n := m) (D := dk) (os := os) hb hm (hI rfl) hO
      obtain ⟨c, hc⟩ := Option.isSome_iff_exists.1 (hs1 x y)
      have := hof _ I hx hm' (xs.get x, xs.get y) [.agg (enc x).toArray, .agg (enc y).toArray]
       ⟨_, _, rfl, ⟨enc x, rfl, (hrel x).ext hx⟩, _, rfl, enc y, rfl, (hrel y).ext hx⟩ c hc
      refine this.mono fun e w'' ⟨rv, I'', q1, q2, ⟨c', q3, q4, _⟩, q5⟩ => ?_
      have q3 : c' = [rv] := q3
      rw [q3] at q4
      have q4 : rv = .int .i64 c := List.singleton_inj.1 q4
      refine ⟨?_, ?_⟩
      · rw [q1, q4]; unfold cfAt; rw [hc]; rfl
      · obtain ⟨⟨d, os'⟩, hw⟩ := regrown_of_below (w := sortWorldK enc k w b 0 m dk os) (w' := w'') ⟨q2.os, q2.tape, q2.output, q2.size, fun j hj => q2.heap j hj fun h => h⟩
        have hd := q5 rfl
        refine ⟨d - (sortWorldK enc k w b 0 m dk os).drawn, os', ?_⟩
        have hdd : w''.drawn = d := by rw [hw]; rfl
        rw [hw]
        simp only [grow, redrawn, World.drewN]
        congr 1
        omega
     have hds : (Array.ofFn (id : Fin xs.length → Fin xs.length)).size = xs.length := by simp
     have hdi : ∀ (j : Nat) (hj : j < xs.length), (Array.ofFn (id : Fin xs.length → Fin xs.length))[j]! = ⟨j, hj⟩ := by
      intro j hj
      rw [getElem!_pos _ j (by simpa using hj)]
      simp
     have hdm : ∀ j, j < xs.length * k → j / k < xs.length ∧ j % k < k ∧ j / k * k + j % k = j := fun j hj =>
      ⟨(Nat.div_lt_iff_lt_mul hp).2 hj, Nat.mod_lt _ hp, Nat.div_add_mod' j k⟩
     have hH : HoldsK enc k w b 0 (Array.ofFn (id : Fin xs.length → Fin xs.length)) := by
      intro j hj
      rw [size_flatK, hds] at hj
      obtain ⟨d1, d2, d3⟩ := hdm j hj
      rw [get_flatK _ _ _ _ (by rw [hds]; exact hj), hdi _ d1, hget _ _ d2, d3]
      have hjc : j < cells.size := by
       have := hmul _ d1
       have : j < j / k * k + k := by omega
       omega
      refine ⟨?_, ?_⟩
      · simp only [World.cell?, hb, Nat.zero_add, id]
        rw [getElem!_pos cells j hjc]
        simp [hjc]
      · simp only [World.frozen?, hb, Nat.zero_add]
        rcases hfz with h | h
        · simp; omega
        · simp; omega
     have hblk : b < w.heap.size := (Array.getElem?_eq_some_iff.1 hb).1
     have hsz : (Array.ofFn (id : Fin xs.length → Fin xs.length)).size < 4611686018427387904 := by rw [hds]; have : xs.length ≤ 281474976710656 := hl.2; omega
     have hcon := AnyQ.slices_SortFunc_eq L k aE zE enc hk hone (cfAt xs F) hO' g lb b 0 cap (Array.ofFn id) w (ub5d_ hent) (by rw [hds]; exact hcmp) hH hblk hsz
     have hsorts := pdq_sorts (ltOf (cfAt xs F)) hO' (Array.ofFn (id : Fin xs.length → Fin xs.length)) 0 xs.length (Lib.bitLen xs.length) true true (Nat.zero_le _) (by rw [hds]; exact Nat.le_refl _) (.inl rfl)
     rw [hds] at hcon
     have hD : pdq (ltOf (cfAt xs F)) (Array.ofFn (id : Fin xs.length → Fin xs.length)) 0 xs.length (Lib.bitLen xs.length) true true = ubl0_ xs F h0 := (ub4j_ xs F h0).symm
     rw [hD] at hcon hsorts
     have hDs : (ubl0_ xs F h0).size = xs.length := by have := hsorts.1.1; rw [hds] at this; exact this
     refine hcon.mono fun e w' ⟨he, n, os, hw⟩ => ?_
     obtain ⟨a1, a2, a3, a4⟩ := ubvk_ (enc := enc) (k := k) (n := n) (D := ubl0_ xs F h0) (os := os) hb
     obtain ⟨x1, x2⟩ := ubsu_ (enc := enc) (k := k) (n := n) (D := ubl0_ xs F h0) (os := os) hb hm (hI rfl) hO
     rw [← hw] at a1 a2 a3 a4 x1 x2
     have hlen : (show List p.T from r).length = xs.length := by
      have : ((ubl0_ xs F h0).toList.map xs.get).length = xs.length := by rw [List.length_map, Array.length_toList, hDs]
      rw [hr] at this; exact this
     have hpc : (putCells id 0 (flatK enc k (ubl0_ xs F h0)) cells).size = cells.size := by simp [putCells]
     refine ⟨_, [], I, [b], he, rfl, rfl, ⟨x1, fun j hj hn => a2 j (fun e => hn (by rw [e]; simp)) hj, a3, fun _ _ h => .inl h, fun _ h => .inl h, x2.1, x2.2.1, by rw [hw]; rfl, by rw [hw]; rfl, by rw [hw]; rfl, x2.2.2⟩, ?_, by simp, fun j hj => .inl (by simpa using hj), fun _ => by rw [a4]; omega⟩
     refine ⟨_, rfl, .inr ⟨b, cap, _, ?_, rfl, ?_, ⟨fz, a1, by rw [hpc]; exact hfz⟩, by rw [hpc]; exact hcs, ?_, hI, (fun h => by cases h), hO⟩⟩
     · exact congrArg (fun n => [Value.slice (some ⟨b, 0, none⟩) n cap]) hlen.symm
     · have : LenOK xs.length cap := hl
       rw [← hlen] at this; exact this
     · intro i y hy
       have hy : ((ubl0_ xs F h0).toList.map xs.get)[i]? = some y := by rw [hr]; exact hy
       rw [List.getElem?_map] at hy
       cases hi : (ubl0_ xs F h0).toList[i]? with
       | none => rw [hi] at hy; cases hy
       | some q =>
         rw [hi] at hy
         cases hy
         have hil : i < xs.length := by have := (List.getElem?_eq_some_iff.1 hi).1; rw [Array.length_toList, hDs] at this; exact this
         have hDi : (ubl0_ xs F h0)[i]! = q := by
          have := (List.getElem?_eq_some_iff.1 hi).2
          rw [getElem!_pos _ i (by rw [hDs]; exact hil)]
          simpa using this
         have heq : ((putCells id 0 (flatK enc k (ubl0_ xs F h0)) cells).toList.drop (i * k)).take k = enc q := by
          apply List.ext_getElem?
          intro c
          by_cases hc : c < k
          · have hlt : i * k + c < cells.size := by have := hmul i hil; omega
            have hlt2 : i * k + c < xs.length * k := by
             have : (i + 1) * k ≤ xs.length * k := Nat.mul_le_mul_right k (by omega)
             rw [Nat.add_mul] at this; omega
            have hdiv : (i * k + c) / k = i := by rw [Nat.mul_comm, Nat.mul_add_div hp, Nat.div_eq_of_lt hc]; omega
            have hmod : (i * k + c) % k = c := by rw [Nat.mul_comm, Nat.mul_add_mod, Nat.mod_eq_of_lt hc]
            rw [List.getElem?_take, if_pos hc, List.getElem?_drop, Array.getElem?_toList]
            simp only [putCells, Array.getElem?_mapIdx]
            rw [Array.getElem?_eq_getElem hlt]
            simp only [Option.map_some]
            rw [if_pos ⟨Nat.zero_le _, by rw [size_flatK, hDs]; omega⟩, Nat.sub_zero, get_flatK _ _ _ _ (by rw [hDs]; exact hlt2), hdiv, hmod, hDi]
            rw [getElem!_pos (enc q) c (by rw [hk]; exact hc)]
            simp [hk, hc]
          · rw [List.getElem?_eq_none (by simp; omega), List.getElem?_eq_none (by rw [hk]; omega)]
         rw [show (Ty.agg p).sz = k from rfl, heq]
         exact (hrel q).ext x1
   · have hx : xs = [] := List.eq_nil_of_length_eq_zero (by omega)
     exact none_ (some ⟨b, 0, none⟩) cap (by rw [e1, hx]; rfl) hx
end
end Go.Ev.Pv
namespace Go.Proofs
open Go.Shelf
def Tryz.lays169_ren : Go.Shelf.Ren := ⟨fun | 169 => 182 | n => n, fun | 70 => 244 | 9 => 9 | 0 => 0 | 72 => 247 | 37 => 245 | 127 => 308 | 3 => 3 | 5 => 5 | n => n, fun | n => n⟩
theorem Tryz.lays169 : Go.Proofs.Lays.n169 Tryz.prog Tryz.lays169_ren := {
 mixed := by kernel_rfl
 f169 := Tryz.func182.trans (congrArg some (by kernel_rfl))
 t0 := Tryz.underlying0
 a0 := Tryz.isAgg0
 z0 := Tryz.sizeOf0
 v0 := Tryz.zeroValue0
 t3 := Tryz.underlying3
 a3 := Tryz.isAgg3
 z3 := Tryz.sizeOf3
 v3 := Tryz.zeroValue3
 t9 := Tryz.underlying9
 a9 := Tryz.isAgg9
 z9 := Tryz.sizeOf9
 v9 := Tryz.zeroValue9
 t37 := Tryz.underlying245
 a37 := Tryz.isAgg245
 z37 := Tryz.sizeOf245
 v37 := Tryz.zeroValue245
 t70 := Tryz.underlying244
 a70 := Tryz.isAgg244
 z70 := Tryz.sizeOf244
 v70 := Tryz.zeroValue244
 t72 := Tryz.underlying247
 a72 := Tryz.isAgg247
 z72 := Tryz.sizeOf247
 v72 := Tryz.zeroValue247
 t127 := Tryz.underlying308
 a127 := Tryz.isAgg308
 z127 := Tryz.sizeOf308
 v127 := Tryz.zeroValue308 }
theorem Tryz.Builder_Extra_169 : Builder.Extra Tryz.prog Tryz.lays169_ren := {
 sizeBuilder := by kernel_rfl
 liesBuilder := by kernel_rfl
 t5 := Tryz.underlying5
 a5 := Tryz.isAgg5
 z5 := Tryz.sizeOf5
 v5 := Tryz.zeroValue5
 infoByte := by kernel_rfl
 cellsByte := by kernel_rfl
 sizeByte := by kernel_rfl
 neB5 := by decide }
open Go.RowKit in
theorem Tryz.Builder_String_any (B b : Nat) (l : List UInt8) (w : World) (h : Lib.IsBuilder 247 5 B b (Lib.byteCells l) w) (hBw : B ≤ w.heap.size) :
 Calls Tryz.prog 182 #[.pointer (some ⟨b, 0, none⟩)] w fun e w' => e = .returned (.string ⟨l.toArray⟩) ∧ Below B w w' := Any.Builder_String_any Tryz.lays169 Tryz.Builder_Extra_169 B b l w h hBw
def Tryz.lays159_ren : Go.Shelf.Ren := ⟨fun | 159 => 95 | 165 => 179 | 166 => 180 | 167 => 181 | 169 => 182 | 230 => 183 | 204 => 184 | 240 => 261 | 241 => 262 | 197 => 263 | 118 => 264 | 168 => 265 | 270 => 266 | 262 => 267 | 276 => 318 | 277 => 319 | 260 => 320 | 242 => 321 | 313 => 322 | 278 => 350 | 274 => 351 | 275 => 352 | n => n, fun | 9 => 9 | 4 => 4 | 3 => 3 | 5 => 5 | 72 => 247 | 0 => 0 | 76 => 250 | 75 => 249 | 107 => 254 | 70 => 244 | 20 => 20 | 37 => 245 | 127 => 308 | 21 => 21 | 105 => 309 | 164 => 350 | 162 => 356 | 203 => 354 | 119 => 375 | 46 => 131 | 139 => 378 | 138 => 377 | 51 => 190 | 160 => 379 | 208 => 391 | 206 => 389 | 80 => 134 | n => n, fun | 13 => 1 | 3 => 3 | 4 => 4 | n => n⟩
theorem Tryz.lays159 : Go.Proofs.Lays.n159 Tryz.prog Tryz.lays159_ren := {
 mixed := by kernel_rfl
 f118 := Tryz.func264.trans (congrArg some (by kernel_rfl))
 f159 := Tryz.func95.trans (congrArg some (by kernel_rfl))
 f165 := Tryz.func179.trans (congrArg some (by kernel_rfl))
 f166 := Tryz.func180.trans (congrArg some (by kernel_rfl))
 f167 := Tryz.func181.trans (congrArg some (by kernel_rfl))
 f168 := Tryz.func265.trans (congrArg some (by kernel_rfl))
 f169 := Tryz.func182.trans (congrArg some (by kernel_rfl))
 f197 := Tryz.func263.trans (congrArg some (by kernel_rfl))
 f204 := Tryz.func184.trans (congrArg some (by kernel_rfl))
 f230 := Tryz.func183.trans (congrArg some (by kernel_rfl))
 f240 := Tryz.func261.trans (congrArg some (by kernel_rfl))
 f241 := Tryz.func262.trans (congrArg some (by kernel_rfl))
 f242 := Tryz.func321.trans (congrArg some (by kernel_rfl))
 f260 := Tryz.func320.trans (congrArg some (by kernel_rfl))
 f262 := Tryz.func267.trans (congrArg some (by kernel_rfl))
 f270 := Tryz.func266.trans (congrArg some (by kernel_rfl))
 f274 := Tryz.func351.trans (congrArg some (by kernel_rfl))
 f275 := Tryz.func352.trans (congrArg some (by kernel_rfl))
 f276 := Tryz.func318.trans (congrArg some (by kernel_rfl))
 f277 := Tryz.func319.trans (congrArg some (by kernel_rfl))
 f278 := Tryz.func350.trans (congrArg some (by kernel_rfl))
 f313 := Tryz.func322.trans (congrArg some (by kernel_rfl))
 t0 := Tryz.underlying0
 a0 := Tryz.isAgg0
 z0 := Tryz.sizeOf0
 v0 := Tryz.zeroValue0
 t3 := Tryz.underlying3
 a3 := Tryz.isAgg3
 z3 := Tryz.sizeOf3
 v3 := Tryz.zeroValue3
 t4 := Tryz.underlying4
 a4 := Tryz.isAgg4
 z4 := Tryz.sizeOf4
 v4 := Tryz.zeroValue4
 t5 := Tryz.underlying5
 a5 := Tryz.isAgg5
 z5 := Tryz.sizeOf5
 v5 := Tryz.zeroValue5
 t9 := Tryz.underlying9
 a9 := Tryz.isAgg9
 z9 := Tryz.sizeOf9
 v9 := Tryz.zeroValue9
 t20 := Tryz.underlying20
 a20 := Tryz.isAgg20
 z20 := Tryz.sizeOf20
 v20 := Tryz.zeroValue20
 t21 := Tryz.underlying21
 a21 := Tryz.isAgg21
 z21 := Tryz.sizeOf21
 v21 := Tryz.zeroValue21
 t37 := Tryz.underlying245
 a37 := Tryz.isAgg245
 z37 := Tryz.sizeOf245
 v37 := Tryz.zeroValue245
 t46 := Tryz.underlying131
 a46 := Tryz.isAgg131
 z46 := Tryz.sizeOf131
 v46 := Tryz.zeroValue131
 t51 := Tryz.underlying190
 a51 := Tryz.isAgg190
 z51 := Tryz.sizeOf190
 v51 := Tryz.zeroValue190
 t70 := Tryz.underlying244
 a70 := Tryz.isAgg244
 z70 := Tryz.sizeOf244
 v70 := Tryz.zeroValue244
 t72 := Tryz.underlying247
 a72 := Tryz.isAgg247
 z72 := Tryz.sizeOf247
 v72 := Tryz.zeroValue247
 t75 := Tryz.underlying249
 a75 := Tryz.isAgg249
 z75 := Tryz.sizeOf249
 v75 := Tryz.zeroValue249
 t76 := Tryz.underlying250
 a76 := Tryz.isAgg250
 z76 := Tryz.sizeOf250
 v76 := Tryz.zeroValue250
 t105 := Tryz.underlying309
 a105 := Tryz.isAgg309
 z105 := Tryz.sizeOf309
 v105 := Tryz.zeroValue309
 t107 := Tryz.underlying254
 a107 := Tryz.isAgg254
 z107 := Tryz.sizeOf254
 v107 := Tryz.zeroValue254
 t119 := Tryz.underlying375
 a119 := Tryz.isAgg375
 z119 := Tryz.sizeOf375
 t127 := Tryz.underlying308
 a127 := Tryz.isAgg308
 z127 := Tryz.sizeOf308
 v127 := Tryz.zeroValue308
 t138 := Tryz.underlying377
 a138 := Tryz.isAgg377
 z138 := Tryz.sizeOf377
 v138 := Tryz.zeroValue377
 t139 := Tryz.underlying378
 a139 := Tryz.isAgg378
 z139 := Tryz.sizeOf378
 v139 := Tryz.zeroValue378
 t160 := Tryz.underlying379
 a160 := Tryz.isAgg379
 z160 := Tryz.sizeOf379
 v160 := Tryz.zeroValue379
 t162 := Tryz.underlying356
 a162 := Tryz.isAgg356
 z162 := Tryz.sizeOf356
 v162 := Tryz.zeroValue356
 t164 := Tryz.underlying350
 a164 := Tryz.isAgg350
 z164 := Tryz.sizeOf350
 v164 := Tryz.zeroValue350
 t203 := Tryz.underlying354
 a203 := Tryz.isAgg354
 z203 := Tryz.sizeOf354
 v203 := Tryz.zeroValue354
 t206 := Tryz.underlying389
 a206 := Tryz.isAgg389
 z206 := Tryz.sizeOf389
 v206 := Tryz.zeroValue389
 t208 := Tryz.underlying391
 a208 := Tryz.isAgg391
 z208 := Tryz.sizeOf391
 v208 := Tryz.zeroValue391
 g3 := by kernel_rfl
 g4 := by kernel_rfl
 g13 := by kernel_rfl }
theorem Tryz.Builder_Extra_159 : Builder.Extra Tryz.prog Tryz.lays159_ren := {
 sizeBuilder := by kernel_rfl
 liesBuilder := by kernel_rfl
 t5 := Tryz.underlying5
 a5 := Tryz.isAgg5
 z5 := Tryz.sizeOf5
 v5 := Tryz.zeroValue5
 infoByte := by kernel_rfl
 cellsByte := by kernel_rfl
 sizeByte := by kernel_rfl
 neB5 := by decide }
def Tryz.lays156_ren : Go.Shelf.Ren := ⟨fun | 156 => 100 | 165 => 179 | 166 => 180 | 169 => 182 | 240 => 261 | 241 => 262 | 276 => 318 | 277 => 319 | n => n, fun | 31 => 23 | 9 => 9 | 3 => 3 | 4 => 4 | 0 => 0 | 20 => 20 | 72 => 247 | 76 => 250 | 70 => 244 | 37 => 245 | 75 => 249 | 127 => 308 | 164 => 350 | 5 => 5 | 80 => 134 | n => n, fun | n => n⟩
theorem Tryz.lays156 : Go.Proofs.Lays.n156 Tryz.prog Tryz.lays156_ren := {
 mixed := by kernel_rfl
 f156 := Tryz.func100.trans (congrArg some (by kernel_rfl))
 f165 := Tryz.func179.trans (congrArg some (by kernel_rfl))
 f166 := Tryz.func180.trans (congrArg some (by kernel_rfl))
 f169 := Tryz.func182.trans (congrArg some (by kernel_rfl))
 f240 := Tryz.func261.trans (congrArg some (by kernel_rfl))
 f241 := Tryz.func262.trans (congrArg some (by kernel_rfl))
 f276 := Tryz.func318.trans (congrArg some (by kernel_rfl))
 f277 := Tryz.func319.trans (congrArg some (by kernel_rfl))
 t0 := Tryz.underlying0
 a0 := Tryz.isAgg0
 z0 := Tryz.sizeOf0
 v0 := Tryz.zeroValue0
 t3 := Tryz.underlying3
 a3 := Tryz.isAgg3
 z3 := Tryz.sizeOf3
 v3 := Tryz.zeroValue3
 t4 := Tryz.underlying4
 a4 := Tryz.isAgg4
 z4 := Tryz.sizeOf4
 v4 := Tryz.zeroValue4
 t9 := Tryz.underlying9
 a9 := Tryz.isAgg9
 z9 := Tryz.sizeOf9
 v9 := Tryz.zeroValue9
 t20 := Tryz.underlying20
 a20 := Tryz.isAgg20
 z20 := Tryz.sizeOf20
 v20 := Tryz.zeroValue20
 t31 := Tryz.underlying23
 a31 := Tryz.isAgg23
 z31 := Tryz.sizeOf23
 v31 := Tryz.zeroValue23
 t37 := Tryz.underlying245
 a37 := Tryz.isAgg245
 z37 := Tryz.sizeOf245
 v37 := Tryz.zeroValue245
 t70 := Tryz.underlying244
 a70 := Tryz.isAgg244
 z70 := Tryz.sizeOf244
 v70 := Tryz.zeroValue244
 t72 := Tryz.underlying247
 a72 := Tryz.isAgg247
 z72 := Tryz.sizeOf247
 v72 := Tryz.zeroValue247
 t75 := Tryz.underlying249
 a75 := Tryz.isAgg249
 z75 := Tryz.sizeOf249
 v75 := Tryz.zeroValue249
 t76 := Tryz.underlying250
 a76 := Tryz.isAgg250
 z76 := Tryz.sizeOf250
 v76 := Tryz.zeroValue250
 t127 := Tryz.underlying308
 a127 := Tryz.isAgg308
 z127 := Tryz.sizeOf308
 v127 := Tryz.zeroValue308
 t164 := Tryz.underlying350
 a164 := Tryz.isAgg350
 z164 := Tryz.sizeOf350
 v164 := Tryz.zeroValue350 }
theorem Tryz.Builder_Extra_156 : Builder.Extra Tryz.prog Tryz.lays156_ren := {
 sizeBuilder := by kernel_rfl
 liesBuilder := by kernel_rfl
 t5 := Tryz.underlying5
 a5 := Tryz.isAgg5
 z5 := Tryz.sizeOf5
 v5 := Tryz.zeroValue5
 infoByte := by kernel_rfl
 cellsByte := by kernel_rfl
 sizeByte := by kernel_rfl
 neB5 := by decide }
open Go.RowKit in
theorem Tryz.strings_Join_none (a : Option Addr) (c : Nat) (sep : ByteArray) (w : World) :
 Calls Tryz.prog 100 #[.slice a 0 c, .string sep] w fun e w' => e = .returned (.string ⟨#[]⟩) ∧ w' = w := Any.strings_Join_none Tryz.lays156 Tryz.Builder_Extra_156 a c sep w
open Go.RowKit in
theorem Tryz.strings_Join (bk o c : Nat) (xs : List ByteArray) (sep : ByteArray) (w : World) (hcells : ∀ (j : Nat) x, xs[j]? = some x → w.cell? ⟨bk, o + j, none⟩ = some (.string x)) (hbk : bk < w.heap.size) (hN : xs.length ≤ 140737488355328) (hcap : xs.length ≤ c) (hlen : (Lib.join (xs.map (·.data.toList)) sep.data.toList).length ≤ 140737488355328) :
 Calls Tryz.prog 100 #[.slice (some ⟨bk, o, none⟩) xs.length c, .string sep] w fun e w' => e = .returned (.string ⟨(Lib.join (xs.map (·.data.toList)) sep.data.toList).toArray⟩) ∧ Below w.heap.size w w' := Any.strings_Join Tryz.lays156 Tryz.Builder_Extra_156 bk o c xs sep w hcells hbk hN hcap hlen
def Tryz.lays137_ren : Go.Shelf.Ren := ⟨fun | 137 => 157 | 217 => 246 | 266 => 311 | n => n, fun | 9 => 9 | 5 => 5 | 3 => 3 | n => n, fun | n => n⟩
theorem Tryz.lays137 : Go.Proofs.Lays.n137 Tryz.prog Tryz.lays137_ren := {
 mixed := by kernel_rfl
 f137 := Tryz.func157.trans (congrArg some (by kernel_rfl))
 f217 := Tryz.func246.trans (congrArg some (by kernel_rfl))
 f266 := Tryz.func311.trans (congrArg some (by kernel_rfl))
 t3 := Tryz.underlying3
 a3 := Tryz.isAgg3
 z3 := Tryz.sizeOf3
 v3 := Tryz.zeroValue3
 t5 := Tryz.underlying5
 a5 := Tryz.isAgg5
 z5 := Tryz.sizeOf5
 v5 := Tryz.zeroValue5
 t9 := Tryz.underlying9
 a9 := Tryz.isAgg9
 z9 := Tryz.sizeOf9
 v9 := Tryz.zeroValue9 }
open Go.RowKit in
theorem Tryz.strings_IndexByte (s : ByteArray) (c : Int) (w : World) :
 Calls Tryz.prog 157 #[.string s, .int .u8 c] w fun e w' => e = .returned (.int .i64 (Lib.indexByte s.data.toList c.toNat.toUInt8)) ∧ w' = w := Any.strings_IndexByte Tryz.lays137 s c w
def Tryz.lays103_ren : Go.Shelf.Ren := ⟨fun | 103 => 177 | 210 => 257 | 206 => 314 | n => n, fun | 9 => 9 | 4 => 4 | 24 => 241 | 3 => 3 | n => n, fun | n => n⟩
theorem Tryz.lays103 : Go.Proofs.Lays.n103 Tryz.prog Tryz.lays103_ren := {
 mixed := by kernel_rfl
 f103 := Tryz.func177.trans (congrArg some (by kernel_rfl))
 f206 := Tryz.func314.trans (congrArg some (by kernel_rfl))
 f210 := Tryz.func257.trans (congrArg some (by kernel_rfl))
 t3 := Tryz.underlying3
 a3 := Tryz.isAgg3
 z3 := Tryz.sizeOf3
 v3 := Tryz.zeroValue3
 t4 := Tryz.underlying4
 a4 := Tryz.isAgg4
 z4 := Tryz.sizeOf4
 v4 := Tryz.zeroValue4
 t9 := Tryz.underlying9
 a9 := Tryz.isAgg9
 z9 := Tryz.sizeOf9
 v9 := Tryz.zeroValue9
 t24 := Tryz.underlying241
 a24 := Tryz.isAgg241
 z24 := Tryz.sizeOf241
 v24 := Tryz.zeroValue241 }
open Go.RowKit in
theorem Tryz.strings_CutPrefix (s p : ByteArray) (w : World) :
 Calls Tryz.prog 177 #[.string s, .string p] w fun e w' => e = .returned (.tuple #[.string ⟨(Lib.trimPrefix s.data.toList p.data.toList).toArray⟩, .bool (Lib.hasPrefix s.data.toList p.data.toList)]) ∧ w' = w := Any.strings_CutPrefix Tryz.lays103 s p w
def Tryz.laysM171_ren : Go.Shelf.Ren := ⟨fun | 171 => 80 | 243 => 136 | 246 => 228 | 283 => 302 | 284 => 303 | 285 => 304 | 286 => 305 | 129 => 121 | 317 => 335 | 318 => 336 | 319 => 337 | 320 => 338 | 337 => 353 | 338 => 354 | n => n, fun | 3 => 3 | 9 => 9 | 2 => 2 | 4 => 4 | 171 => 339 | 0 => 0 | 53 => 192 | 37 => 245 | 5 => 5 | 173 => 341 | 212 => 366 | 51 => 190 | 20 => 20 | 213 => 367 | 46 => 131 | 232 => 392 | 233 => 393 | n => n, fun | 17 => 2 | 18 => 7 | 19 => 8 | n => n⟩
theorem Tryz.laysM171 : Go.Proofs.LaysM.n171 Tryz.prog Tryz.laysM171_ren := {
 mixed := by kernel_rfl
 f129 := Tryz.func121.trans (congrArg some (by kernel_rfl))
 f171 := Tryz.func80.trans (congrArg some (by kernel_rfl))
 f243 := Tryz.func136.trans (congrArg some (by kernel_rfl))
 f246 := Tryz.func228.trans (congrArg some (by kernel_rfl))
 f283 := Tryz.func302.trans (congrArg some (by kernel_rfl))
 f284 := Tryz.func303.trans (congrArg some (by kernel_rfl))
 f285 := Tryz.func304.trans (congrArg some (by kernel_rfl))
 f286 := Tryz.func305.trans (congrArg some (by kernel_rfl))
 f317 := Tryz.func335.trans (congrArg some (by kernel_rfl))
 f318 := Tryz.func336.trans (congrArg some (by kernel_rfl))
 f319 := Tryz.func337.trans (congrArg some (by kernel_rfl))
 f320 := Tryz.func338.trans (congrArg some (by kernel_rfl))
 f337 := Tryz.func353.trans (congrArg some (by kernel_rfl))
 f338 := Tryz.func354.trans (congrArg some (by kernel_rfl))
 t0 := Tryz.underlying0
 a0 := Tryz.isAgg0
 z0 := Tryz.sizeOf0
 v0 := Tryz.zeroValue0
 t2 := Tryz.underlying2
 a2 := Tryz.isAgg2
 z2 := Tryz.sizeOf2
 v2 := Tryz.zeroValue2
 t3 := Tryz.underlying3
 a3 := Tryz.isAgg3
 z3 := Tryz.sizeOf3
 v3 := Tryz.zeroValue3
 t4 := Tryz.underlying4
 a4 := Tryz.isAgg4
 z4 := Tryz.sizeOf4
 v4 := Tryz.zeroValue4
 t5 := Tryz.underlying5
 a5 := Tryz.isAgg5
 z5 := Tryz.sizeOf5
 v5 := Tryz.zeroValue5
 t9 := Tryz.underlying9
 a9 := Tryz.isAgg9
 z9 := Tryz.sizeOf9
 v9 := Tryz.zeroValue9
 t20 := Tryz.underlying20
 a20 := Tryz.isAgg20
 z20 := Tryz.sizeOf20
 v20 := Tryz.zeroValue20
 t37 := Tryz.underlying245
 a37 := Tryz.isAgg245
 z37 := Tryz.sizeOf245
 v37 := Tryz.zeroValue245
 t46 := Tryz.underlying131
 a46 := Tryz.isAgg131
 z46 := Tryz.sizeOf131
 v46 := Tryz.zeroValue131
 t51 := Tryz.underlying190
 a51 := Tryz.isAgg190
 z51 := Tryz.sizeOf190
 v51 := Tryz.zeroValue190
 t53 := Tryz.underlying192
 a53 := Tryz.isAgg192
 z53 := Tryz.sizeOf192
 v53 := Tryz.zeroValue192
 t171 := Tryz.underlying339
 a171 := Tryz.isAgg339
 z171 := Tryz.sizeOf339
 v171 := Tryz.zeroValue339
 t173 := Tryz.underlying341
 a173 := Tryz.isAgg341
 z173 := Tryz.sizeOf341
 v173 := Tryz.zeroValue341
 t212 := Tryz.underlying366
 a212 := Tryz.isAgg366
 z212 := Tryz.sizeOf366
 v212 := Tryz.zeroValue366
 t213 := Tryz.underlying367
 a213 := Tryz.isAgg367
 z213 := Tryz.sizeOf367
 t232 := Tryz.underlying392
 a232 := Tryz.isAgg392
 z232 := Tryz.sizeOf392
 v232 := Tryz.zeroValue392
 t233 := Tryz.underlying393
 a233 := Tryz.isAgg393
 z233 := Tryz.sizeOf393
 v233 := Tryz.zeroValue393
 g17 := by kernel_rfl
 g18 := by kernel_rfl
 g19 := by kernel_rfl
 i0 := by kernel_rfl
 i2 := by kernel_rfl
 i3 := by kernel_rfl
 i4 := by kernel_rfl
 i5 := by kernel_rfl
 i9 := by kernel_rfl
 i20 := by kernel_rfl
 i37 := by kernel_rfl
 i46 := by kernel_rfl
 i51 := by kernel_rfl
 i53 := by kernel_rfl
 i171 := by kernel_rfl
 i173 := by kernel_rfl
 i212 := by kernel_rfl
 i232 := by kernel_rfl
 i233 := by kernel_rfl
 m17 := by kernel_rfl
 m18 := by kernel_rfl
 m19 := by kernel_rfl }
open Go.RowKit Go.Sort Go.Lib in
theorem Tryz.strconv_Itoa (n : Int) (h0 : -9223372036854775808 ≤ n) (h1 : n ≤ 9223372036854775807) (w : World) (htab : Lib.TabIs Tryz.prog w "internal/strconv.uint64pow10" .u64 Lib.pow10Tab) :
 Calls Tryz.prog 80 #[.int .i64 n] w fun e w' => e = .returned (.string ⟨(Lib.itoa n).toArray⟩) ∧ ∃ k os, w' = grow (w.drewN k) os := Any.strconv_Itoa Tryz.laysM171 n h0 h1 w htab
def Tryz.laysC172_ren : Go.Shelf.Ren := ⟨fun | 172 => 254 | 244 => 315 | 245 => 316 | 247 => 345 | 279 => 346 | 280 => 347 | 281 => 348 | 282 => 349 | 287 => 358 | 316 => 359 | 171 => 80 | 205 => 360 | 321 => 361 | 322 => 362 | 243 => 136 | 246 => 228 | 283 => 302 | 284 => 303 | 285 => 304 | 286 => 305 | 129 => 121 | 317 => 335 | 318 => 336 | 319 => 337 | 320 => 338 | 337 => 353 | 338 => 354 | n => n, fun | 9 => 9 | 3 => 3 | 75 => 249 | 76 => 250 | 4 => 4 | 5 => 5 | 167 => 369 | 37 => 245 | 0 => 0 | 85 => 370 | 2 => 2 | 168 => 372 | 53 => 192 | 175 => 383 | 46 => 131 | 210 => 386 | 127 => 308 | 145 => 397 | 143 => 395 | 21 => 21 | 171 => 339 | 173 => 341 | 212 => 366 | 51 => 190 | 20 => 20 | 213 => 367 | 232 => 392 | 233 => 393 | 80 => 134 | n => n, fun | 15 => 5 | 16 => 6 | 17 => 2 | 18 => 7 | 19 => 8 | n => n⟩
theorem Tryz.laysC172 : Go.Proofs.LaysC.n172 Tryz.prog Tryz.laysC172_ren := {
 mixed := by kernel_rfl
 f129 := Tryz.func121.trans (congrArg some (by kernel_rfl))
 f171 := Tryz.func80.trans (congrArg some (by kernel_rfl))
 f172 := Tryz.func254.trans (congrArg some (by kernel_rfl))
 f205 := Tryz.func360.trans (congrArg some (by kernel_rfl))
 f243 := Tryz.func136.trans (congrArg some (by kernel_rfl))
 f244 := Tryz.func315.trans (congrArg some (by kernel_rfl))
 f245 := Tryz.func316.trans (congrArg some (by kernel_rfl))
 f246 := Tryz.func228.trans (congrArg some (by kernel_rfl))
 f247 := Tryz.func345.trans (congrArg some (by kernel_rfl))
 f279 := Tryz.func346.trans (congrArg some (by kernel_rfl))
 f280 := Tryz.func347.trans (congrArg some (by kernel_rfl))
 f281 := Tryz.func348.trans (congrArg some (by kernel_rfl))
 f282 := Tryz.func349.trans (congrArg some (by kernel_rfl))
 f283 := Tryz.func302.trans (congrArg some (by kernel_rfl))
 f284 := Tryz.func303.trans (congrArg some (by kernel_rfl))
 f285 := Tryz.func304.trans (congrArg some (by kernel_rfl))
 f286 := Tryz.func305.trans (congrArg some (by kernel_rfl))
 f287 := Tryz.func358.trans (congrArg some (by kernel_rfl))
 f316 := Tryz.func359.trans (congrArg some (by kernel_rfl))
 f317 := Tryz.func335.trans (congrArg some (by kernel_rfl))
 f318 := Tryz.func336.trans (congrArg some (by kernel_rfl))
 f319 := Tryz.func337.trans (congrArg some (by kernel_rfl))
 f320 := Tryz.func338.trans (congrArg some (by kernel_rfl))
 f321 := Tryz.func361.trans (congrArg some (by kernel_rfl))
 f322 := Tryz.func362.trans (congrArg some (by kernel_rfl))
 f337 := Tryz.func353.trans (congrArg some (by kernel_rfl))
 f338 := Tryz.func354.trans (congrArg some (by kernel_rfl))
 t0 := Tryz.underlying0
 a0 := Tryz.isAgg0
 z0 := Tryz.sizeOf0
 v0 := Tryz.zeroValue0
 t2 := Tryz.underlying2
 a2 := Tryz.isAgg2
 z2 := Tryz.sizeOf2
 v2 := Tryz.zeroValue2
 t3 := Tryz.underlying3
 a3 := Tryz.isAgg3
 z3 := Tryz.sizeOf3
 v3 := Tryz.zeroValue3
 t4 := Tryz.underlying4
 a4 := Tryz.isAgg4
 z4 := Tryz.sizeOf4
 v4 := Tryz.zeroValue4
 t5 := Tryz.underlying5
 a5 := Tryz.isAgg5
 z5 := Tryz.sizeOf5
 v5 := Tryz.zeroValue5
 t9 := Tryz.underlying9
 a9 := Tryz.isAgg9
 z9 := Tryz.sizeOf9
 v9 := Tryz.zeroValue9
 t20 := Tryz.underlying20
 a20 := Tryz.isAgg20
 z20 := Tryz.sizeOf20
 v20 := Tryz.zeroValue20
 t21 := Tryz.underlying21
 a21 := Tryz.isAgg21
 z21 := Tryz.sizeOf21
 v21 := Tryz.zeroValue21
 t37 := Tryz.underlying245
 a37 := Tryz.isAgg245
 z37 := Tryz.sizeOf245
 v37 := Tryz.zeroValue245
 t46 := Tryz.underlying131
 a46 := Tryz.isAgg131
 z46 := Tryz.sizeOf131
 v46 := Tryz.zeroValue131
 t51 := Tryz.underlying190
 a51 := Tryz.isAgg190
 z51 := Tryz.sizeOf190
 v51 := Tryz.zeroValue190
 t53 := Tryz.underlying192
 a53 := Tryz.isAgg192
 z53 := Tryz.sizeOf192
 v53 := Tryz.zeroValue192
 t75 := Tryz.underlying249
 a75 := Tryz.isAgg249
 z75 := Tryz.sizeOf249
 v75 := Tryz.zeroValue249
 t76 := Tryz.underlying250
 a76 := Tryz.isAgg250
 z76 := Tryz.sizeOf250
 v76 := Tryz.zeroValue250
 t85 := Tryz.underlying370
 a85 := Tryz.isAgg370
 z85 := Tryz.sizeOf370
 v85 := Tryz.zeroValue370
 t127 := Tryz.underlying308
 a127 := Tryz.isAgg308
 z127 := Tryz.sizeOf308
 v127 := Tryz.zeroValue308
 t143 := Tryz.underlying395
 a143 := Tryz.isAgg395
 z143 := Tryz.sizeOf395
 v143 := Tryz.zeroValue395
 t145 := Tryz.underlying397
 a145 := Tryz.isAgg397
 z145 := Tryz.sizeOf397
 v145 := Tryz.zeroValue397
 t167 := Tryz.underlying369
 a167 := Tryz.isAgg369
 z167 := Tryz.sizeOf369
 v167 := Tryz.zeroValue369
 t168 := Tryz.underlying372
 a168 := Tryz.isAgg372
 z168 := Tryz.sizeOf372
 v168 := Tryz.zeroValue372
 t171 := Tryz.underlying339
 a171 := Tryz.isAgg339
 z171 := Tryz.sizeOf339
 v171 := Tryz.zeroValue339
 t173 := Tryz.underlying341
 a173 := Tryz.isAgg341
 z173 := Tryz.sizeOf341
 v173 := Tryz.zeroValue341
 t175 := Tryz.underlying383
 a175 := Tryz.isAgg383
 z175 := Tryz.sizeOf383
 v175 := Tryz.zeroValue383
 t210 := Tryz.underlying386
 a210 := Tryz.isAgg386
 z210 := Tryz.sizeOf386
 v210 := Tryz.zeroValue386
 t212 := Tryz.underlying366
 a212 := Tryz.isAgg366
 z212 := Tryz.sizeOf366
 v212 := Tryz.zeroValue366
 t213 := Tryz.underlying367
 a213 := Tryz.isAgg367
 z213 := Tryz.sizeOf367
 t232 := Tryz.underlying392
 a232 := Tryz.isAgg392
 z232 := Tryz.sizeOf392
 v232 := Tryz.zeroValue392
 t233 := Tryz.underlying393
 a233 := Tryz.isAgg393
 z233 := Tryz.sizeOf393
 v233 := Tryz.zeroValue393
 g15 := by kernel_rfl
 g16 := by kernel_rfl
 g17 := by kernel_rfl
 g18 := by kernel_rfl
 g19 := by kernel_rfl
 t80 := Tryz.underlying134
 a80 := Tryz.isAgg134
 z80 := Tryz.sizeOf134
 v80 := Tryz.zeroValue134
 i0 := by kernel_rfl
 i2 := by kernel_rfl
 i3 := by kernel_rfl
 i4 := by kernel_rfl
 i5 := by kernel_rfl
 i9 := by kernel_rfl
 i20 := by kernel_rfl
 i21 := by kernel_rfl
 i37 := by kernel_rfl
 i46 := by kernel_rfl
 i51 := by kernel_rfl
 i53 := by kernel_rfl
 i75 := by kernel_rfl
 i76 := by kernel_rfl
 i80 := by kernel_rfl
 i85 := by kernel_rfl
 i127 := by kernel_rfl
 i143 := by kernel_rfl
 i145 := by kernel_rfl
 i167 := by kernel_rfl
 i168 := by kernel_rfl
 i171 := by kernel_rfl
 i173 := by kernel_rfl
 i175 := by kernel_rfl
 i210 := by kernel_rfl
 i212 := by kernel_rfl
 i232 := by kernel_rfl
 i233 := by kernel_rfl
 m15 := by kernel_rfl
 m16 := by kernel_rfl
 m17 := by kernel_rfl
 m18 := by kernel_rfl
 m19 := by kernel_rfl
 c0 := by kernel_rfl
 c2 := by kernel_rfl
 c3 := by kernel_rfl
 c4 := by kernel_rfl
 c5 := by kernel_rfl
 c9 := by kernel_rfl
 c20 := by kernel_rfl
 c21 := by kernel_rfl
 c37 := by kernel_rfl
 c46 := by kernel_rfl
 c51 := by kernel_rfl
 c53 := by kernel_rfl
 c75 := by kernel_rfl
 c76 := by kernel_rfl
 c80 := by kernel_rfl
 c85 := by kernel_rfl
 c127 := by kernel_rfl
 c143 := by kernel_rfl
 c145 := by kernel_rfl
 c167 := by kernel_rfl
 c168 := by kernel_rfl
 c171 := by kernel_rfl
 c173 := by kernel_rfl
 c175 := by kernel_rfl
 c210 := by kernel_rfl
 c212 := by kernel_rfl
 c213 := by kernel_rfl
 c232 := by kernel_rfl
 c233 := by kernel_rfl }
open Go.RowKit in
theorem Tryz.strconv_Atoi_ok (s : ByteArray) (hmax : s.size ≤ 9223372036854775806) (v : Int) (h : Lib.atoiAll s.data.toList = .ok v) (w : World) :
 Calls Tryz.prog 254 #[.string s] w fun e w' => e = .returned (.tuple #[.int .i64 v, .nilIface]) ∧ (w' = w ∨ ∃ t, w' = Lib.bytesWorld w 5 t) := Any.strconv_Atoi_ok Tryz.laysC172 s hmax v h w
open Go.RowKit in
theorem Tryz.strconv_Atoi_syntax (s : ByteArray) (hlim : s.size ≤ 281474976710656) (h : Lib.atoiAll s.data.toList = Lib.atoiAll []) (ev : Value) (w : World) (hv : w.cell? ⟨5, 0, none⟩ = some ev) (hev : ev = .nilIface ∨ ∃ te pe, ev = .iface te pe) :
 Calls Tryz.prog 254 #[.string s] w fun e w' => ∃ N, e = .returned (.tuple #[.int .i64 (0), .iface 372 (.pointer (some ⟨N, 0, none⟩))]) ∧ w.heap.size ≤ N ∧ w'.heap[N]? = some (.cells #[.string ⟨#[65, 116, 111, 105]⟩, .string s, ev] 386 (0, 0)) ∧ Below w.heap.size w w' := Any.strconv_Atoi_syntax Tryz.laysC172 s hlim h ev w hv hev
open Go.RowKit in
theorem Tryz.strconv_Atoi_range (s : ByteArray) (hlim : s.size ≤ 281474976710656) (h : Lib.atoiAll s.data.toList = .range) (ev : Value) (w : World) (hv : w.cell? ⟨6, 0, none⟩ = some ev) (hev : ev = .nilIface ∨ ∃ te pe, ev = .iface te pe) :
 Calls Tryz.prog 254 #[.string s] w fun e w' => ∃ N, e = .returned (.tuple #[.int .i64 (Lib.atoiSat s.data.toList), .iface 372 (.pointer (some ⟨N, 0, none⟩))]) ∧ w.heap.size ≤ N ∧ w'.heap[N]? = some (.cells #[.string ⟨#[65, 116, 111, 105]⟩, .string s, ev] 386 (0, 0)) ∧ Below w.heap.size w w' := Any.strconv_Atoi_range Tryz.laysC172 s hlim h ev w hv hev
def Tryz.lays144_ren : Go.Shelf.Ren := ⟨fun | 144 => 193 | 143 => 271 | 219 => 313 | 217 => 246 | 225 => 342 | 224 => 343 | 267 => 344 | 266 => 311 | 314 => 357 | n => n, fun | 9 => 9 | 4 => 4 | 3 => 3 | 5 => 5 | 46 => 131 | 146 => 360 | 51 => 190 | n => n, fun | 1 => 0 | n => n⟩
theorem Tryz.lays144 : Go.Proofs.Lays.n144 Tryz.prog Tryz.lays144_ren := {
 mixed := by kernel_rfl
 f143 := Tryz.func271.trans (congrArg some (by kernel_rfl))
 f144 := Tryz.func193.trans (congrArg some (by kernel_rfl))
 f217 := Tryz.func246.trans (congrArg some (by kernel_rfl))
 f219 := Tryz.func313.trans (congrArg some (by kernel_rfl))
 f224 := Tryz.func343.trans (congrArg some (by kernel_rfl))
 f225 := Tryz.func342.trans (congrArg some (by kernel_rfl))
 f266 := Tryz.func311.trans (congrArg some (by kernel_rfl))
 f267 := Tryz.func344.trans (congrArg some (by kernel_rfl))
 f314 := Tryz.func357.trans (congrArg some (by kernel_rfl))
 t3 := Tryz.underlying3
 a3 := Tryz.isAgg3
 z3 := Tryz.sizeOf3
 v3 := Tryz.zeroValue3
 t4 := Tryz.underlying4
 a4 := Tryz.isAgg4
 z4 := Tryz.sizeOf4
 v4 := Tryz.zeroValue4
 t5 := Tryz.underlying5
 a5 := Tryz.isAgg5
 z5 := Tryz.sizeOf5
 v5 := Tryz.zeroValue5
 t9 := Tryz.underlying9
 a9 := Tryz.isAgg9
 z9 := Tryz.sizeOf9
 v9 := Tryz.zeroValue9
 t46 := Tryz.underlying131
 a46 := Tryz.isAgg131
 z46 := Tryz.sizeOf131
 v46 := Tryz.zeroValue131
 t51 := Tryz.underlying190
 a51 := Tryz.isAgg190
 z51 := Tryz.sizeOf190
 v51 := Tryz.zeroValue190
 t146 := Tryz.underlying360
 a146 := Tryz.isAgg360
 z146 := Tryz.sizeOf360
 v146 := Tryz.zeroValue360
 g1 := by kernel_rfl }
open Go.RowKit Go.Lib in
theorem Tryz.strings_Contains (s sub : ByteArray) (m : Int) (w : World) (hs : s.size < 4294967281) (hm : w.cell? ⟨0, 0, none⟩ = some (.int .i64 m)) :
 Calls Tryz.prog 193 #[.string s, .string sub] w fun e w' => e = .returned (.bool (Lib.contains s.data.toList sub.data.toList)) ∧ w' = w := Any.strings_Contains Tryz.lays144 s sub m w hs hm
def Tryz.lays145_ren : Go.Shelf.Ren := ⟨fun | 145 => 168 | 220 => 251 | 219 => 313 | 217 => 246 | 225 => 342 | 224 => 343 | 267 => 344 | 266 => 311 | 314 => 357 | n => n, fun | 9 => 9 | 4 => 4 | 59 => 234 | 3 => 3 | 5 => 5 | 46 => 131 | 146 => 360 | 51 => 190 | n => n, fun | 1 => 0 | n => n⟩
theorem Tryz.lays145 : Go.Proofs.Lays.n145 Tryz.prog Tryz.lays145_ren := {
 mixed := by kernel_rfl
 f145 := Tryz.func168.trans (congrArg some (by kernel_rfl))
 f217 := Tryz.func246.trans (congrArg some (by kernel_rfl))
 f219 := Tryz.func313.trans (congrArg some (by kernel_rfl))
 f220 := Tryz.func251.trans (congrArg some (by kernel_rfl))
 f224 := Tryz.func343.trans (congrArg some (by kernel_rfl))
 f225 := Tryz.func342.trans (congrArg some (by kernel_rfl))
 f266 := Tryz.func311.trans (congrArg some (by kernel_rfl))
 f267 := Tryz.func344.trans (congrArg some (by kernel_rfl))
 f314 := Tryz.func357.trans (congrArg some (by kernel_rfl))
 t3 := Tryz.underlying3
 a3 := Tryz.isAgg3
 z3 := Tryz.sizeOf3
 v3 := Tryz.zeroValue3
 t4 := Tryz.underlying4
 a4 := Tryz.isAgg4
 z4 := Tryz.sizeOf4
 v4 := Tryz.zeroValue4
 t5 := Tryz.underlying5
 a5 := Tryz.isAgg5
 z5 := Tryz.sizeOf5
 v5 := Tryz.zeroValue5
 t9 := Tryz.underlying9
 a9 := Tryz.isAgg9
 z9 := Tryz.sizeOf9
 v9 := Tryz.zeroValue9
 t46 := Tryz.underlying131
 a46 := Tryz.isAgg131
 z46 := Tryz.sizeOf131
 v46 := Tryz.zeroValue131
 t51 := Tryz.underlying190
 a51 := Tryz.isAgg190
 z51 := Tryz.sizeOf190
 v51 := Tryz.zeroValue190
 t59 := Tryz.underlying234
 a59 := Tryz.isAgg234
 z59 := Tryz.sizeOf234
 v59 := Tryz.zeroValue234
 t146 := Tryz.underlying360
 a146 := Tryz.isAgg360
 z146 := Tryz.sizeOf360
 v146 := Tryz.zeroValue360
 g1 := by kernel_rfl }
open Go.RowKit Go.Lib in
theorem Tryz.strings_Cut (s sep : ByteArray) (m : Int) (w : World) (hs : s.size < 4294967281) (hm : w.cell? ⟨0, 0, none⟩ = some (.int .i64 m)) :
 Calls Tryz.prog 168 #[.string s, .string sep] w fun e w' => e = .returned (.tuple #[.string ⟨(Lib.cut s.data.toList sep.data.toList).1.toArray⟩, .string ⟨(Lib.cut s.data.toList sep.data.toList).2.1.toArray⟩, .bool (Lib.cut s.data.toList sep.data.toList).2.2]) ∧ ∃ n, w' = w.drewN n := Any.strings_Cut Tryz.lays145 s sep m w hs hm
def Tryz.lays149_ren : Go.Shelf.Ren := ⟨fun | 149 => 172 | 222 => 252 | n => n, fun | 9 => 9 | 5 => 5 | 3 => 3 | 4 => 4 | n => n, fun | n => n⟩
theorem Tryz.lays149 : Go.Proofs.Lays.n149 Tryz.prog Tryz.lays149_ren := {
 mixed := by kernel_rfl
 f149 := Tryz.func172.trans (congrArg some (by kernel_rfl))
 f222 := Tryz.func252.trans (congrArg some (by kernel_rfl))
 t3 := Tryz.underlying3
 a3 := Tryz.isAgg3
 z3 := Tryz.sizeOf3
 v3 := Tryz.zeroValue3
 t4 := Tryz.underlying4
 a4 := Tryz.isAgg4
 z4 := Tryz.sizeOf4
 v4 := Tryz.zeroValue4
 t5 := Tryz.underlying5
 a5 := Tryz.isAgg5
 z5 := Tryz.sizeOf5
 v5 := Tryz.zeroValue5
 t9 := Tryz.underlying9
 a9 := Tryz.isAgg9
 z9 := Tryz.sizeOf9
 v9 := Tryz.zeroValue9 }
open Go.RowKit Go.Lib in
theorem Tryz.strings_LastIndexByte (s : ByteArray) (c : Int) (hs : s.size < 4611686018427387904) (w : World) :
 Calls Tryz.prog 172 #[.string s, .int .u8 c] w fun e w' => e = .returned (.int .i64 (Lib.lastIndexByte s c)) ∧ w' = w := Any.strings_LastIndexByte Tryz.lays149 s c hs w
def Tryz.lays99_ren : Go.Shelf.Ren := ⟨fun | 99 => 294 | 206 => 314 | n => n, fun | 9 => 9 | 4 => 4 | 3 => 3 | n => n, fun | n => n⟩
theorem Tryz.lays99 : Go.Proofs.Lays.n99 Tryz.prog Tryz.lays99_ren := {
 mixed := by kernel_rfl
 f99 := Tryz.func294.trans (congrArg some (by kernel_rfl))
 f206 := Tryz.func314.trans (congrArg some (by kernel_rfl))
 t3 := Tryz.underlying3
 a3 := Tryz.isAgg3
 z3 := Tryz.sizeOf3
 v3 := Tryz.zeroValue3
 t4 := Tryz.underlying4
 a4 := Tryz.isAgg4
 z4 := Tryz.sizeOf4
 v4 := Tryz.zeroValue4
 t9 := Tryz.underlying9
 a9 := Tryz.isAgg9
 z9 := Tryz.sizeOf9
 v9 := Tryz.zeroValue9 }
open Go.RowKit Go.Lib in
theorem Tryz.strings_HasPrefix (s p : ByteArray) (w : World) :
 Calls Tryz.prog 294 #[.string s, .string p] w fun e w' => e = .returned (.bool (Lib.hasPrefix s.data.toList p.data.toList)) ∧ w' = w := Any.strings_HasPrefix Tryz.lays99 s p w
def Tryz.lays101_ren : Go.Shelf.Ren := ⟨fun | 101 => 173 | 208 => 253 | 206 => 314 | n => n, fun | 9 => 9 | 4 => 4 | 3 => 3 | n => n, fun | n => n⟩
theorem Tryz.lays101 : Go.Proofs.Lays.n101 Tryz.prog Tryz.lays101_ren := {
 mixed := by kernel_rfl
 f101 := Tryz.func173.trans (congrArg some (by kernel_rfl))
 f206 := Tryz.func314.trans (congrArg some (by kernel_rfl))
 f208 := Tryz.func253.trans (congrArg some (by kernel_rfl))
 t3 := Tryz.underlying3
 a3 := Tryz.isAgg3
 z3 := Tryz.sizeOf3
 v3 := Tryz.zeroValue3
 t4 := Tryz.underlying4
 a4 := Tryz.isAgg4
 z4 := Tryz.sizeOf4
 v4 := Tryz.zeroValue4
 t9 := Tryz.underlying9
 a9 := Tryz.isAgg9
 z9 := Tryz.sizeOf9
 v9 := Tryz.zeroValue9 }
open Go.RowKit Go.Lib in
theorem Tryz.strings_TrimPrefix (s p : ByteArray) (w : World) :
 Calls Tryz.prog 173 #[.string s, .string p] w fun e w' => e = .returned (.string ⟨(Lib.trimPrefix s.data.toList p.data.toList).toArray⟩) ∧ w' = w := Any.strings_TrimPrefix Tryz.lays101 s p w
def Tryz.lays146_ren : Go.Shelf.Ren := ⟨fun | 146 => 245 | 221 => 310 | 268 => 340 | 138 => 341 | 143 => 271 | 195 => 355 | 197 => 263 | 218 => 356 | 219 => 313 | 260 => 320 | 217 => 246 | 225 => 342 | 224 => 343 | 267 => 344 | 266 => 311 | 314 => 357 | n => n, fun | 9 => 9 | 31 => 23 | 3 => 3 | 4 => 4 | 0 => 0 | 105 => 309 | 21 => 21 | 5 => 5 | 46 => 131 | 119 => 375 | 139 => 378 | 138 => 377 | 146 => 360 | 51 => 190 | n => n, fun | 1 => 0 | 3 => 3 | 4 => 4 | n => n⟩
theorem Tryz.lays146 : Go.Proofs.Lays.n146 Tryz.prog Tryz.lays146_ren := {
 mixed := by kernel_rfl
 f138 := Tryz.func341.trans (congrArg some (by kernel_rfl))
 f143 := Tryz.func271.trans (congrArg some (by kernel_rfl))
 f146 := Tryz.func245.trans (congrArg some (by kernel_rfl))
 f195 := Tryz.func355.trans (congrArg some (by kernel_rfl))
 f197 := Tryz.func263.trans (congrArg some (by kernel_rfl))
 f217 := Tryz.func246.trans (congrArg some (by kernel_rfl))
 f218 := Tryz.func356.trans (congrArg some (by kernel_rfl))
 f219 := Tryz.func313.trans (congrArg some (by kernel_rfl))
 f221 := Tryz.func310.trans (congrArg some (by kernel_rfl))
 f224 := Tryz.func343.trans (congrArg some (by kernel_rfl))
 f225 := Tryz.func342.trans (congrArg some (by kernel_rfl))
 f260 := Tryz.func320.trans (congrArg some (by kernel_rfl))
 f266 := Tryz.func311.trans (congrArg some (by kernel_rfl))
 f267 := Tryz.func344.trans (congrArg some (by kernel_rfl))
 f268 := Tryz.func340.trans (congrArg some (by kernel_rfl))
 f314 := Tryz.func357.trans (congrArg some (by kernel_rfl))
 t0 := Tryz.underlying0
 a0 := Tryz.isAgg0
 z0 := Tryz.sizeOf0
 v0 := Tryz.zeroValue0
 t3 := Tryz.underlying3
 a3 := Tryz.isAgg3
 z3 := Tryz.sizeOf3
 v3 := Tryz.zeroValue3
 t4 := Tryz.underlying4
 a4 := Tryz.isAgg4
 z4 := Tryz.sizeOf4
 v4 := Tryz.zeroValue4
 t5 := Tryz.underlying5
 a5 := Tryz.isAgg5
 z5 := Tryz.sizeOf5
 v5 := Tryz.zeroValue5
 t9 := Tryz.underlying9
 a9 := Tryz.isAgg9
 z9 := Tryz.sizeOf9
 v9 := Tryz.zeroValue9
 t21 := Tryz.underlying21
 a21 := Tryz.isAgg21
 z21 := Tryz.sizeOf21
 v21 := Tryz.zeroValue21
 t31 := Tryz.underlying23
 a31 := Tryz.isAgg23
 z31 := Tryz.sizeOf23
 v31 := Tryz.zeroValue23
 t46 := Tryz.underlying131
 a46 := Tryz.isAgg131
 z46 := Tryz.sizeOf131
 v46 := Tryz.zeroValue131
 t51 := Tryz.underlying190
 a51 := Tryz.isAgg190
 z51 := Tryz.sizeOf190
 v51 := Tryz.zeroValue190
 t105 := Tryz.underlying309
 a105 := Tryz.isAgg309
 z105 := Tryz.sizeOf309
 v105 := Tryz.zeroValue309
 t119 := Tryz.underlying375
 a119 := Tryz.isAgg375
 z119 := Tryz.sizeOf375
 t138 := Tryz.underlying377
 a138 := Tryz.isAgg377
 z138 := Tryz.sizeOf377
 v138 := Tryz.zeroValue377
 t139 := Tryz.underlying378
 a139 := Tryz.isAgg378
 z139 := Tryz.sizeOf378
 v139 := Tryz.zeroValue378
 t146 := Tryz.underlying360
 a146 := Tryz.isAgg360
 z146 := Tryz.sizeOf360
 v146 := Tryz.zeroValue360
 g1 := by kernel_rfl
 g3 := by kernel_rfl
 g4 := by kernel_rfl }
open Go.RowKit Go.Lib in
theorem Tryz.strings_Split (s sep : ByteArray) (m : Int) (w : World) (hs : s.size < 4294967281) (hm : w.cell? ⟨0, 0, none⟩ = some (.int .i64 m)) (h1 : 1 ≤ sep.size) :
 Calls Tryz.prog 245 #[.string s, .string sep] w fun e w' =>
  e = .returned (.slice (some ⟨w.heap.size, 0, none⟩) (Lib.countB s sep + 1) (Lib.countB s sep + 1)) ∧ w' = w.alloc (.cells ((Lib.splitB sep 0 (Lib.countB s sep) s).map Value.string).toArray 9) := Any.strings_Split Tryz.lays146 (by kernel_rfl) s sep m w hs hm h1
def Tryz.lays105_ren : Go.Shelf.Ren := ⟨fun | 105 => 222 | 212 => 293 | 99 => 294 | 165 => 179 | 166 => 180 | 170 => 295 | 169 => 182 | 263 => 329 | 264 => 330 | 206 => 314 | 240 => 261 | 241 => 262 | 276 => 318 | 277 => 319 | n => n, fun | 9 => 9 | 3 => 3 | 4 => 4 | 20 => 20 | 0 => 0 | 46 => 131 | 109 => 333 | 5 => 5 | 72 => 247 | 76 => 250 | 51 => 190 | 146 => 360 | 53 => 192 | 148 => 362 | 70 => 244 | 37 => 245 | 75 => 249 | 127 => 308 | 164 => 350 | 80 => 134 | n => n, fun | n => n⟩
theorem Tryz.lays105 : Go.Proofs.Lays.n105 Tryz.prog Tryz.lays105_ren := {
 mixed := by kernel_rfl
 f99 := Tryz.func294.trans (congrArg some (by kernel_rfl))
 f105 := Tryz.func222.trans (congrArg some (by kernel_rfl))
 f165 := Tryz.func179.trans (congrArg some (by kernel_rfl))
 f166 := Tryz.func180.trans (congrArg some (by kernel_rfl))
 f169 := Tryz.func182.trans (congrArg some (by kernel_rfl))
 f170 := Tryz.func295.trans (congrArg some (by kernel_rfl))
 f206 := Tryz.func314.trans (congrArg some (by kernel_rfl))
 f212 := Tryz.func293.trans (congrArg some (by kernel_rfl))
 f240 := Tryz.func261.trans (congrArg some (by kernel_rfl))
 f241 := Tryz.func262.trans (congrArg some (by kernel_rfl))
 f263 := Tryz.func329.trans (congrArg some (by kernel_rfl))
 f264 := Tryz.func330.trans (congrArg some (by kernel_rfl))
 f276 := Tryz.func318.trans (congrArg some (by kernel_rfl))
 f277 := Tryz.func319.trans (congrArg some (by kernel_rfl))
 t0 := Tryz.underlying0
 a0 := Tryz.isAgg0
 z0 := Tryz.sizeOf0
 v0 := Tryz.zeroValue0
 t3 := Tryz.underlying3
 a3 := Tryz.isAgg3
 z3 := Tryz.sizeOf3
 v3 := Tryz.zeroValue3
 t4 := Tryz.underlying4
 a4 := Tryz.isAgg4
 z4 := Tryz.sizeOf4
 v4 := Tryz.zeroValue4
 t5 := Tryz.underlying5
 a5 := Tryz.isAgg5
 z5 := Tryz.sizeOf5
 v5 := Tryz.zeroValue5
 t9 := Tryz.underlying9
 a9 := Tryz.isAgg9
 z9 := Tryz.sizeOf9
 v9 := Tryz.zeroValue9
 t20 := Tryz.underlying20
 a20 := Tryz.isAgg20
 z20 := Tryz.sizeOf20
 v20 := Tryz.zeroValue20
 t37 := Tryz.underlying245
 a37 := Tryz.isAgg245
 z37 := Tryz.sizeOf245
 v37 := Tryz.zeroValue245
 t46 := Tryz.underlying131
 a46 := Tryz.isAgg131
 z46 := Tryz.sizeOf131
 v46 := Tryz.zeroValue131
 t51 := Tryz.underlying190
 a51 := Tryz.isAgg190
 z51 := Tryz.sizeOf190
 v51 := Tryz.zeroValue190
 t53 := Tryz.underlying192
 a53 := Tryz.isAgg192
 z53 := Tryz.sizeOf192
 v53 := Tryz.zeroValue192
 t70 := Tryz.underlying244
 a70 := Tryz.isAgg244
 z70 := Tryz.sizeOf244
 v70 := Tryz.zeroValue244
 t72 := Tryz.underlying247
 a72 := Tryz.isAgg247
 z72 := Tryz.sizeOf247
 v72 := Tryz.zeroValue247
 t75 := Tryz.underlying249
 a75 := Tryz.isAgg249
 z75 := Tryz.sizeOf249
 v75 := Tryz.zeroValue249
 t76 := Tryz.underlying250
 a76 := Tryz.isAgg250
 z76 := Tryz.sizeOf250
 v76 := Tryz.zeroValue250
 t109 := Tryz.underlying333
 a109 := Tryz.isAgg333
 z109 := Tryz.sizeOf333
 v109 := Tryz.zeroValue333
 t127 := Tryz.underlying308
 a127 := Tryz.isAgg308
 z127 := Tryz.sizeOf308
 v127 := Tryz.zeroValue308
 t146 := Tryz.underlying360
 a146 := Tryz.isAgg360
 z146 := Tryz.sizeOf360
 v146 := Tryz.zeroValue360
 t148 := Tryz.underlying362
 a148 := Tryz.isAgg362
 z148 := Tryz.sizeOf362
 v148 := Tryz.zeroValue362
 t164 := Tryz.underlying350
 a164 := Tryz.isAgg350
 z164 := Tryz.sizeOf350
 v164 := Tryz.zeroValue350 }
theorem Tryz.Builder_Extra_105 : Builder.Extra Tryz.prog Tryz.lays105_ren := {
 sizeBuilder := by kernel_rfl
 liesBuilder := by kernel_rfl
 t5 := Tryz.underlying5
 a5 := Tryz.isAgg5
 z5 := Tryz.sizeOf5
 v5 := Tryz.zeroValue5
 infoByte := by kernel_rfl
 cellsByte := by kernel_rfl
 sizeByte := by kernel_rfl
 neB5 := by decide }
open Go.RowKit Go.Lib in
theorem Tryz.strings_Repeat (s : ByteArray) (c : Nat) (w : World) (hc : c ≤ 9223372036854775807) (hlen : s.size * c ≤ 140737488355328) :
 Calls Tryz.prog 222 #[.string s, .int .i64 c] w fun e w' => e = .returned (.string ⟨(Lib.repeatL s.data.toList c).toArray⟩) ∧ Below w.heap.size w w' := Any.strings_Repeat Tryz.lays105 Tryz.Builder_Extra_105 s c w hc hlen
def Tryz.lays229_ren : Go.Shelf.Ren := ⟨fun | 229 => 258 | n => n, fun | 9 => 9 | 40 => 307 | 31 => 23 | 152 => 347 | 3 => 3 | 0 => 0 | 4 => 4 | 21 => 21 | 154 => 349 | n => n, fun | n => n⟩
theorem Tryz.lays229 : Go.Proofs.Lays.n229 Tryz.prog Tryz.lays229_ren := {
 mixed := by kernel_rfl
 f229 := Tryz.func258.trans (congrArg some (by kernel_rfl))
 t0 := Tryz.underlying0
 a0 := Tryz.isAgg0
 z0 := Tryz.sizeOf0
 v0 := Tryz.zeroValue0
 t3 := Tryz.underlying3
 a3 := Tryz.isAgg3
 z3 := Tryz.sizeOf3
 v3 := Tryz.zeroValue3
 t4 := Tryz.underlying4
 a4 := Tryz.isAgg4
 z4 := Tryz.sizeOf4
 v4 := Tryz.zeroValue4
 t9 := Tryz.underlying9
 a9 := Tryz.isAgg9
 z9 := Tryz.sizeOf9
 v9 := Tryz.zeroValue9
 t21 := Tryz.underlying21
 a21 := Tryz.isAgg21
 z21 := Tryz.sizeOf21
 v21 := Tryz.zeroValue21
 t31 := Tryz.underlying23
 a31 := Tryz.isAgg23
 z31 := Tryz.sizeOf23
 v31 := Tryz.zeroValue23
 t40 := Tryz.underlying307
 a40 := Tryz.isAgg307
 z40 := Tryz.sizeOf307
 v40 := Tryz.zeroValue307
 t152 := Tryz.underlying347
 a152 := Tryz.isAgg347
 z152 := Tryz.sizeOf347
 v152 := Tryz.zeroValue347
 t154 := Tryz.underlying349
 a154 := Tryz.isAgg349
 z154 := Tryz.sizeOf349
 v154 := Tryz.zeroValue349 }
open Go.RowKit Go.Lib in
theorem Tryz.strings_FieldsFunc_runes (g : Nat) (lb : Array Value) (eg : ∀ args w, (callFunc g args).run Tryz.prog w = .ok (.enter g args) w) (p : Nat → Bool) (s : ByteArray) (w : World) (hs : s.size ≤ 4294967296) (hp : PredAtRunes Tryz.prog g lb p w) :
 Calls Tryz.prog 258 #[.string s, .func (.func g) #[] lb] w fun e w' => ∃ A, e = .returned (.slice (some ⟨A, 0, none⟩) (Lib.goFieldsP p s).length (Lib.goFieldsP p s).length) ∧ w.heap.size ≤ A ∧
  w'.ownsRow w.heap.size 9 1 (.slice (some ⟨A, 0, none⟩) (Lib.goFieldsP p s).length (Lib.goFieldsP p s).length) (Lib.goFieldsP p s).length ((Lib.goFieldsP p s).map Value.string) ∧ Below w.heap.size w w' := Any.strings_FieldsFunc_runes Tryz.lays229 g lb eg p s w hs hp (by kernel_rfl) (by kernel_rfl)
open Go.RowKit Go.Lib in
theorem Tryz.strings_ToLower_any (s : ByteArray) (w : World) (hs : s.size < 35184372088832) (hV : CaseVar 1 caseA w) (hT : Lib.Utf8Tabs 3 4 w) :
 Calls Tryz.prog 95 #[.string s] w fun e w' => e = .returned (.string ⟨(Lib.toLowerD s.data.toList).toArray⟩) ∧ Below w.heap.size w w' := Any.strings_ToLower_any Tryz.lays159 Tryz.Builder_Extra_159 s w hs hV hT
end Go.Proofs
namespace Go.Ev.Pv
open Go.Proofs Go.RowKit Go.Lib
def HoldsTab (w : World) (g : Nat) (k : IntKind) (zs : List Int) : Prop := ∃ el fz, w.heap[g]? = some (.cells (zs.map fun z => Value.int k z).toArray el fz)
theorem ucbi_ {P : Program} {w : World} {n : String} {g : Nat} {k : IntKind} {zs : List Int} (hg : P.globalNamed n = some g) (h : HoldsTab w g k zs) : Lib.TabIs P w n k zs := by
 obtain ⟨el, fz, h⟩ := h
 unfold Lib.TabIs World.var?
 rw [hg]
 simp only [Option.bind_some, h]
theorem ub7e_ {w : World} {b : Nat} {o : Go.Obj} (h : w.heap[b]? = some o) : b < w.heap.size := (Array.getElem?_eq_some_iff.1 h).1
def Facts (w : World) : Prop :=
 HoldsTab w 2 .u64 Lib.pow10Tab ∧ CaseVar 1 caseA w ∧ Lib.Utf8Tabs 3 4 w ∧ (∃ m, w.cell? ⟨0, 0, none⟩ = some (.int .i64 m)) ∧
 (∃ ev, w.cell? ⟨5, 0, none⟩ = some ev ∧ (ev = .nilIface ∨ ∃ te pe, ev = .iface te pe)) ∧ (∃ ev, w.cell? ⟨6, 0, none⟩ = some ev ∧ (ev = .nilIface ∨ ∃ te pe, ev = .iface te pe))
theorem ub1e_ {w : World} {b o : Nat} {v : Value} (h : w.cell? ⟨b, o, none⟩ = some v) : b < w.heap.size := by
 apply Classical.byContradiction
 intro hn
 simp only [World.cell?, Array.getElem?_eq_none (Nat.le_of_not_lt hn)] at h
 cases h
theorem Facts.below {w w' : World} (h : Facts w) (hb : Below w.heap.size w w') : Facts w' := by
 obtain ⟨h1, h2, h3, ⟨m, h4⟩, ⟨e1, h5, h5'⟩, e2, h6, h6'⟩ := h
 exact ⟨(let ⟨el, fz, h1⟩ := h1; ⟨el, fz, (hb.block 2 (ub7e_ h1)).trans h1⟩), CaseVar_below h2 hb, Utf8Tabs_below h3 hb, ⟨m, (hb.cell (ub1e_ h4)).trans h4⟩, ⟨e1, (hb.cell (ub1e_ h5)).trans h5, h5'⟩, e2, (hb.cell (ub1e_ h6)).trans h6, h6'⟩
theorem Facts.later {w w' : World} (h : Facts w) (hb : ∀ b, b < w.heap.size → w'.heap[b]? = w.heap[b]?) : Facts w' := by
 have hs : w.heap.size ≤ w'.heap.size := by
  apply Classical.byContradiction
  intro hn
  have h1 := hb w'.heap.size (by omega)
  rw [Array.getElem?_eq_none (Nat.le_refl _), Array.getElem?_eq_getElem (by omega)] at h1
  cases h1
 have hB : Below w.heap.size w { w' with os := w.os, tape := w.tape, output := w.output } := ⟨rfl, rfl, rfl, hs, hb⟩
 have h2 := h.below hB
 exact h2
instance : Pins := ⟨fun w I => ∃ w0, Facts w0 ∧ ∀ b, b < w0.heap.size → I.obj b ∧ w.heap[b]? = w0.heap[b]?,
 fun ⟨w0, h1, h2⟩ e => ⟨w0, h1, fun b hb => ⟨(e.obj b (h2 b hb).1).1, (e.obj b (h2 b hb).1).2.trans (h2 b hb).2⟩⟩⟩
theorem facts {w : World} {I : Im} (h : Mem w I) : Facts w := let ⟨_, h1, h2⟩ := h.2.2; h1.later fun b hb => (h2 b hb).2
theorem uwh_ {f : Nat} {fn : Func} (h : Tryz.prog.funcs[f]? = some fn) (hn : (fn.name == "runtime.NumGoroutine") = false) (hb : fn.body = some (u5_ fn)) : uo_ Tryz.prog f := ⟨fn, _, h, hn, hb⟩
def udz_ : FSpec := ⟨[.val (.int .i64)], [.val .str], strconv_Itoa, true⟩
theorem ued_ : uo_ Go.Proofs.Tryz.prog 80 ∧ FunOK Go.Proofs.Tryz.prog 80 udz_ := by
 refine ⟨uwh_ Tryz.func80 (by kernel_rfl) (by kernel_rfl), FunOK.flat1 (t := .str) rfl rfl (fun args => by cases args <;> rfl) fun w I v args bs hm hsh r hr => ?_⟩
 obtain ⟨rfl, x, rfl, hx⟩ := in1 hsh
 obtain ⟨rfl, h0, h1⟩ := ub89_ hx
 cases hr
 refine ⟨rfl, .string ⟨(itoaS v).toArray⟩, fun w' I' => out1 (ubf9_ (Nat.le_trans (ub4i_ v) (by decide))), ?_⟩
 rw [ucbh_ h0 h1]
 refine (Any.strconv_Itoa Tryz.laysM171 v h0 h1 w (ucbi_ (g := 2) (by kernel_rfl) (facts hm).1)).mono fun e w' ⟨he, k, os, hw⟩ => ⟨he, ?_, fun _ => ?_⟩
 · rw [hw]; exact Lib.below_grow _ w (Nat.le_refl _) k os
 · rw [hw]; exact Nat.le_add_right _ _
theorem ubvl_ {w w' : World} {D : Prop} (h : w' = w) : Below w.heap.size w w' ∧ (D → w.drawn ≤ w'.drawn) := by
 subst h; exact ⟨Below.refl _ _, fun _ => Nat.le_refl _⟩
theorem ub97_ {w w' : World} {D : Prop} (h : ∃ n, w' = w.drewN n) : Below w.heap.size w w' ∧ (D → w.drawn ≤ w'.drawn) := by
 obtain ⟨n, rfl⟩ := h; exact ⟨⟨rfl, rfl, rfl, Nat.le_refl _, fun _ _ => rfl⟩, fun _ => Nat.le_add_right _ _⟩
theorem ub7f_ {a : Str} {n : Nat} (h : a.length < n) : (⟨a.toArray⟩ : ByteArray).size < n := by rw [uxd_]; exact h
theorem ucdo_ {a : Str} {k n : Nat} (h : a.length * k ≤ n) : (⟨a.toArray⟩ : ByteArray).size * k ≤ n := by rw [uxd_]; exact h
theorem ucco_ (s p : Str) : (Lib.cut s p).1.length ≤ s.length ∧ (Lib.cut s p).2.1.length ≤ s.length := by
 unfold Lib.cut
 split
 · simp only [List.length_take, List.length_drop]; omega
 · simp
theorem ub7g_ {s : Str} {k : Nat} (h : s.length * k ≤ 140737488355328) : (Lib.repeatL s k).length ≤ 281474976710656 := by rw [Lib.repeatL_length, Nat.mul_comm]; omega
theorem ub7h_ {n : Int} (h1 : -9223372036854775808 ≤ n) (h2 : n ≤ 9223372036854775807) : uop_ .i64 n := ⟨h1, h2⟩
theorem ucdp_ {n : Int} (h : uop_ .i64 n) : n ≤ 9223372036854775807 := h.2
theorem ub24_ (c : UInt8) : ∀ l : List UInt8, Lib.indexByte l c ≤ l.length := by
 intro l
 induction l with
 | nil => simp [Lib.indexByte]
 | cons b l ih =>
   simp only [Lib.indexByte, List.length_cons]
   repeat' split
   all_goals omega
def uf8_ : FSpec := ⟨[.val .str, .val (.int .u8)], [.val (.int .i64)], strings_IndexByte, true⟩
theorem uhr_ : uo_ Go.Proofs.Tryz.prog 157 ∧ FunOK Go.Proofs.Tryz.prog 157 uf8_ := by
 refine ⟨uwh_ Tryz.func157 (by kernel_rfl) (by kernel_rfl), FunOK.flat1 (t := .int .i64) rfl rfl (fun args => by rcases args with _ | ⟨_, _ | ⟨_, _⟩⟩ <;> rfl) fun w I v args bs hm hsh r hr => ?_⟩
 obtain ⟨rfl, x, y, rfl, hx, hy⟩ := in2 hsh
 obtain ⟨rfl, h0⟩ := ubf8_ hx
 obtain ⟨rfl, h1⟩ := ub89_ hy
 obtain ⟨h2, hr⟩ := u68_ hr
 cases hr
 refine ⟨rfl, _, fun w' I' => out1 (ub4k_ (k := .i64) (n := Lib.indexByte v.1 v.2.toNat.toUInt8) ?_), ?_⟩
 · have k1 := ub24_ v.2.toNat.toUInt8 v.1
   have k2 := Lib.indexByte_ge v.1 v.2.toNat.toUInt8
   exact ub7h_ (by omega) (by omega)
 · exact (Tryz.strings_IndexByte ⟨v.1.toArray⟩ v.2 w).mono fun e w' ⟨he, hw⟩ => ⟨he, ubvl_ hw⟩
theorem ubzp_ (s : ByteArray) (c : Int) : ∀ k, -1 ≤ Lib.lastIdx s c k ∧ Lib.lastIdx s c k ≤ k := by
 intro k
 induction k with
 | zero => simp [Lib.lastIdx]
 | succ k ih =>
   simp only [Lib.lastIdx]
   split <;> omega
def uux_ : FSpec := ⟨[.val .str, .val (.int .u8)], [.val (.int .i64)], strings_LastIndexByte, true⟩
theorem uba7_ : uo_ Go.Proofs.Tryz.prog 172 ∧ FunOK Go.Proofs.Tryz.prog 172 uux_ := by
 refine ⟨uwh_ Tryz.func172 (by kernel_rfl) (by kernel_rfl), FunOK.flat1 (t := .int .i64) rfl rfl (fun args => by rcases args with _ | ⟨_, _ | ⟨_, _⟩⟩ <;> rfl) fun w I v args bs hm hsh r hr => ?_⟩
 obtain ⟨rfl, x, y, rfl, hx, hy⟩ := in2 hsh
 obtain ⟨rfl, h0⟩ := ubf8_ hx
 obtain ⟨rfl, h1⟩ := ub89_ hy
 obtain ⟨h2, hr⟩ := u68_ hr
 cases hr
 have hsz : (⟨v.1.toArray⟩ : ByteArray).size = v.1.length := uxd_ v.1
 refine ⟨rfl, _, fun w' I' => out1 (ub4k_ (k := .i64) (n := Lib.lastIndexByte ⟨v.1.toArray⟩ v.2) ?_), ?_⟩
 · have k1 := ubzp_ ⟨v.1.toArray⟩ v.2 (⟨v.1.toArray⟩ : ByteArray).size
   have k2 : ((⟨v.1.toArray⟩ : ByteArray).size : Int) = (v.1.length : Nat) := by rw [hsz]
   unfold Lib.lastIndexByte
   exact ub7h_ (by omega) (by omega)
 · exact (Tryz.strings_LastIndexByte ⟨v.1.toArray⟩ v.2 (ub7f_ h2) w).mono fun e w' ⟨he, hw⟩ => ⟨he, ubvl_ hw⟩
def u2w_ : FSpec := ⟨[.val .str, .val .str], [.val .bool], strings_HasPrefix, true⟩
theorem ubl5_ : uo_ Go.Proofs.Tryz.prog 294 ∧ FunOK Go.Proofs.Tryz.prog 294 u2w_ := by
 refine ⟨uwh_ Tryz.func294 (by kernel_rfl) (by kernel_rfl), FunOK.flat1 (t := .bool) rfl rfl (fun args => by rcases args with _ | ⟨_, _ | ⟨_, _⟩⟩ <;> rfl) fun w I v args bs hm hsh r hr => ?_⟩
 obtain ⟨rfl, x, y, rfl, hx, hy⟩ := in2 hsh
 obtain ⟨rfl, h0⟩ := ubf8_ hx
 obtain ⟨rfl, h1⟩ := ubf8_ hy
 cases hr
 exact ⟨rfl, _, fun w' I' => out1 ub23_, (Tryz.strings_HasPrefix ⟨v.1.toArray⟩ ⟨v.2.toArray⟩ w).mono fun e w' ⟨he, hw⟩ => ⟨he, ubvl_ hw⟩⟩
theorem trimPrefix_len (s p : Str) : (Lib.trimPrefix s p).length ≤ s.length := by
 unfold Lib.trimPrefix
 split
 · simp
 · exact Nat.le_refl _
def u01_ : FSpec := ⟨[.val .str, .val .str], [.val .str], strings_TrimPrefix, true⟩
theorem ubi4_ : uo_ Go.Proofs.Tryz.prog 173 ∧ FunOK Go.Proofs.Tryz.prog 173 u01_ := by
 refine ⟨uwh_ Tryz.func173 (by kernel_rfl) (by kernel_rfl), FunOK.flat1 (t := .str) rfl rfl (fun args => by rcases args with _ | ⟨_, _ | ⟨_, _⟩⟩ <;> rfl) fun w I v args bs hm hsh r hr => ?_⟩
 obtain ⟨rfl, x, y, rfl, hx, hy⟩ := in2 hsh
 obtain ⟨rfl, h0⟩ := ubf8_ hx
 obtain ⟨rfl, h1⟩ := ubf8_ hy
 cases hr
 exact ⟨rfl, _, fun w' I' => out1 (ubf9_ (Nat.le_trans (trimPrefix_len v.1 v.2) h0)), (Tryz.strings_TrimPrefix ⟨v.1.toArray⟩ ⟨v.2.toArray⟩ w).mono fun e w' ⟨he, hw⟩ => ⟨he, ubvl_ hw⟩⟩
def u2x_ : FSpec := ⟨[.val .str, .val .str], [.val .str, .val .bool], strings_CutPrefix, true⟩
theorem ubl6_ : uo_ Go.Proofs.Tryz.prog 177 ∧ FunOK Go.Proofs.Tryz.prog 177 u2x_ := by
 refine ⟨uwh_ Tryz.func177 (by kernel_rfl) (by kernel_rfl), FunOK.given fun w I v args bs hm hsh r hr => ?_⟩
 obtain ⟨rfl, x, y, rfl, hx, hy⟩ := in2 hsh
 obtain ⟨rfl, h0⟩ := ubf8_ hx
 obtain ⟨rfl, h1⟩ := ubf8_ hy
 cases hr
 refine ⟨rfl, (Tryz.strings_CutPrefix ⟨v.1.toArray⟩ ⟨v.2.toArray⟩ w).mono fun e w' ⟨he, hw⟩ => ⟨_, [_, _], noX, he, rfl, rfl, (ubvl_ (D := True) hw).1, fun _ => (ubvl_ hw).2 trivial, ub22_, ?_⟩⟩
 exact out2 (a := .str) (b := .bool) (x := (Lib.trimPrefix v.1 v.2, Lib.hasPrefix v.1 v.2)) (ubf9_ (Nat.le_trans (trimPrefix_len v.1 v.2) h0)) ub23_
def uba8_ : FSpec := ⟨[.val .str, .val .str], [.val .str, .val .str, .val .bool], strings_Cut, true⟩
theorem uboi_ : uo_ Go.Proofs.Tryz.prog 168 ∧ FunOK Go.Proofs.Tryz.prog 168 uba8_ := by
 refine ⟨uwh_ Tryz.func168 (by kernel_rfl) (by kernel_rfl), FunOK.given fun w I v args bs hm hsh r hr => ?_⟩
 obtain ⟨rfl, x, y, rfl, hx, hy⟩ := in2 hsh
 obtain ⟨rfl, h0⟩ := ubf8_ hx
 obtain ⟨rfl, h1⟩ := ubf8_ hy
 obtain ⟨h2, hr⟩ := u68_ hr
 cases hr
 obtain ⟨m, hmm⟩ := (facts hm).2.2.2.1
 refine ⟨rfl, (Tryz.strings_Cut ⟨v.1.toArray⟩ ⟨v.2.toArray⟩ m w (ub7f_ h2) hmm).mono fun e w' ⟨he, hw⟩ => ⟨_, [_, _, _], noX, he, rfl, rfl, (ub97_ (D := True) hw).1, fun _ => (ub97_ hw).2 trivial, ub22_, ?_⟩⟩
 have hl := ucco_ v.1 v.2
 exact out3 (a := .str) (b := .str) (c := .bool) (x := Lib.cut v.1 v.2) (ubf9_ (Nat.le_trans hl.1 h0)) (ubf9_ (Nat.le_trans hl.2 h0)) ub23_
def ubdf_ : FSpec := ⟨[.val .str, .val (.int .i64)], [.val .str], strings_Repeat, false⟩
theorem ubs8_ : uo_ Go.Proofs.Tryz.prog 222 ∧ FunOK Go.Proofs.Tryz.prog 222 ubdf_ := by
 refine ⟨uwh_ Tryz.func222 (by kernel_rfl) (by kernel_rfl), FunOK.flat1 (t := .str) rfl rfl (fun args => by rcases args with _ | ⟨_, _ | ⟨_, _⟩⟩ <;> rfl) fun w I v args bs hm hsh r hr => ?_⟩
 obtain ⟨rfl, x, y, rfl, hx, hy⟩ := in2 hsh
 obtain ⟨rfl, h0⟩ := ubf8_ hx
 obtain ⟨rfl, h1⟩ := ub89_ hy
 obtain ⟨⟨h2, h3⟩, hr⟩ := u68_ hr
 cases hr
 have hn : ((v.2.toNat : Nat) : Int) = v.2 := Int.toNat_of_nonneg h2
 have hk : v.2.toNat ≤ 9223372036854775807 := by
  have := ucdp_ h1
  omega
 have hlen := ub7g_ h3
 refine ⟨rfl, _, fun w' I' => out1 (ubf9_ hlen), ?_⟩
 have := Tryz.strings_Repeat ⟨v.1.toArray⟩ v.2.toNat w hk (ucdo_ h3)
 rw [hn] at this
 exact this.mono fun e w' ⟨he, hw⟩ => ⟨he, hw, fun h => by cases h⟩
def uxo_ : FSpec := ⟨[.val .str], [.val .str], url_, false⟩
theorem u8y_ : uo_ Go.Proofs.Tryz.prog 95 ∧ FunOK Go.Proofs.Tryz.prog 95 uxo_ := by
 refine ⟨uwh_ Tryz.func95 (by kernel_rfl) (by kernel_rfl), FunOK.flat1 (t := .str) rfl rfl (fun args => by cases args <;> rfl) fun w I v args bs hm hsh r hr => ?_⟩
 obtain ⟨rfl, x, rfl, hx⟩ := in1 hsh
 obtain ⟨rfl, h0⟩ := ubf8_ hx
 obtain ⟨h2, hr⟩ := u68_ hr
 obtain ⟨rfl, h3⟩ := str?_some hr
 exact ⟨rfl, _, fun w' I' => out1 (ubf9_ h3), (Tryz.strings_ToLower_any ⟨v.toArray⟩ w (ub7f_ h2) (facts hm).2.1 (facts hm).2.2.1).mono fun e w' ⟨he, hw⟩ => ⟨he, hw, fun h => by cases h⟩⟩
theorem ub5f_ (w : World) (t : TypeId) (s : ByteArray) : Below w.heap.size w (Lib.bytesWorld w t s) := by
 unfold Lib.bytesWorld
 exact Lib.below_freeze (((Below.refl _ _).drew).alloc (Nat.le_refl _) _) (p := ⟨w.heap.size, _, none⟩) (Nat.le_refl _) _
def uble_ : FSpec := ⟨[.val .str], [.val (.int .i64), .any], ubax_, false⟩
theorem ub25_ {P : Program} {w : World} {I : Im} {n : Int} (h : uop_ .i64 n) (v : Value) : ShL P w I [.val (.int .i64), .any] (n, ()) [.int .i64 n, v] [] :=
 ⟨_, _, [], [], rfl, rfl, ⟨ub4k_ h, rfl⟩, v, rfl, rfl⟩
theorem uccp_ {s : Str} {v : Int} (h : Lib.atoiAll s = .ok v) : uop_ .i64 v := by
 unfold Lib.atoiAll at h
 split at h
 · cases h
 · simp only at h
   split at h
   · cases h
   · cases h
   · rename_i u hu
     split at h
     · cases h
     · split at h
       · cases h
       · cases h
         split <;> exact ub7h_ (by omega) (by omega)
theorem ub7i_ (s : Str) : uop_ .i64 (Lib.atoiSat s) := by
 unfold Lib.atoiSat
 split <;> exact ub7h_ (by decide) (by decide)
theorem strconv_Atoi_ok : uo_ Go.Proofs.Tryz.prog 254 ∧ FunOK Go.Proofs.Tryz.prog 254 uble_ := by
 refine ⟨uwh_ Tryz.func254 (by kernel_rfl) (by kernel_rfl), FunOK.given fun w I v args bs hm hsh r hr => ?_⟩
 obtain ⟨rfl, x, rfl, hx⟩ := in1 hsh
 obtain ⟨rfl, h0⟩ := ubf8_ hx
 obtain ⟨h2, hr⟩ := u68_ hr
 have hs : (⟨Array.mk v⟩ : ByteArray).size ≤ 281474976710656 := by have := ub7f_ (a := v) (n := 281474976710657) (by omega); exact Nat.le_of_lt_succ this
 refine ⟨rfl, ?_⟩
 obtain ⟨_, _, _, _, ⟨e5, h5, h5'⟩, e6, h6, h6'⟩ := facts hm
 cases hn : Lib.atoiAll v
 · rename_i n
   rw [hn] at hr
   dsimp only at hr
   cases hr
   refine (Tryz.strconv_Atoi_ok ⟨v.toArray⟩ (Nat.le_trans hs (by decide)) n hn w).mono fun e w' ⟨he, hw⟩ => ⟨_, [_, _], noX, he, rfl, rfl, ?_, (fun h => by cases h), ub22_, ub25_ (uccp_ hn) _⟩
   rcases hw with rfl | ⟨t, rfl⟩
   · exact Below.refl _ _
   · exact ub5f_ _ _ _
 · rw [hn] at hr
   dsimp only at hr
   cases hr
   exact (Tryz.strconv_Atoi_syntax ⟨v.toArray⟩ hs hn e5 w h5 h5').mono fun e w' ⟨N, he, _, _, hw⟩ => ⟨_, [_, _], noX, he, rfl, rfl, hw, (fun h => by cases h), ub22_, ub25_ (ub7h_ (by decide) (by decide)) _⟩
 · rw [hn] at hr
   dsimp only at hr
   cases hr
   exact (Tryz.strconv_Atoi_range ⟨v.toArray⟩ hs hn e6 w h6 h6').mono fun e w' ⟨N, he, _, _, hw⟩ => ⟨_, [_, _], noX, he, rfl, rfl, hw, (fun h => by cases h), ub22_, ub25_ (ub7i_ v) _⟩
theorem ub7j_ {P : Program} {w : World} {I : Im} {X : Nat → Nat → Prop} {b cap : Nat} {xs : List Str} {cells : Array Value} {el : TypeId} {fz : Nat × Nat} (hb : w.heap[b]? = some (.cells cells el fz)) (hlen : xs.length ≤ cap) (hl : xs.length ≤ 281474976710656)
 (hc : ∀ (i : Nat) x, xs[i]? = some x → cells[i]? = some (.string ⟨x.toArray⟩)) (hs : ∀ x ∈ xs, x.length ≤ 281474976710656) (hX : ∀ o, o < xs.length → X b o) :
 VRel w (imNew I X) (.slice .str) xs (.slice (some ⟨b, 0, none⟩) xs.length cap) := by
 refine ⟨_, rfl, _, _, rfl, ⟨hlen, hl⟩, (fun h => by cases h), fun ad had => ?_⟩
 cases had
 refine ⟨fun _ => rfl, fun i x hx => ⟨[.string ⟨(show Str from x).toArray⟩], ⟨rfl, fun j hj => ?_⟩, rfl, hs x (List.mem_of_getElem? hx)⟩⟩
 have hj0 : j = 0 := by have : j < 1 := hj; omega
 subst hj0
 have e : (0 + i * Ty.str.sz + 0) = i := by show 0 + i * 1 + 0 = i; omega
 have hi : i < xs.length := (List.getElem?_eq_some_iff.1 hx).1
 refine ⟨.inr ?_, ?_⟩
 · rw [e]; exact hX i hi
 · show w.cell? ⟨b, 0 + i * Ty.str.sz + 0, none⟩ = _
   rw [e]
   simp only [World.cell?, hb, hc i x hx]
   rfl
theorem ub7k_ (sep : ByteArray) (h1 : 1 ≤ sep.size) : ∀ (k : Nat) (s : ByteArray), Lib.countB s sep = k → (Lib.splitB sep 0 k s).length = k + 1 := by
 intro k
 induction k with
 | zero => intro s _; rfl
 | succ k ih =>
   intro s hk
   by_cases hm : Lib.indexB s sep = -1
   · rw [Lib.countB_miss s sep hm] at hk; cases hk
   · have hge := Lib.index_ge s.data.toList sep.data.toList
     obtain ⟨i, hi⟩ : ∃ i : Nat, Lib.indexB s sep = i := ⟨(Lib.indexB s sep).toNat, by have : -1 ≤ Lib.indexB s sep := hge; omega⟩
     rw [Lib.splitB_hit sep 0 k s i hi, List.length_cons, ih]
     have := Lib.countB_hit s sep i h1 hi
     omega
theorem ub7l_ (sep : ByteArray) (n : Nat) : ∀ (k : Nat) (s : ByteArray), s.size ≤ n → ∀ x ∈ Lib.splitB sep 0 k s, x.size ≤ n := by
 intro k
 induction k with
 | zero => intro s hs x hx; rw [Lib.splitB_zero, List.mem_singleton] at hx; subst hx; exact hs
 | succ k ih =>
   intro s hs x hx
   unfold Lib.splitB at hx
   split at hx
   · rw [List.mem_singleton] at hx; subst hx; exact hs
   · rcases List.mem_cons.1 hx with rfl | hx
     · rw [ByteArray.size_extract]; omega
     · exact ih _ (by rw [ByteArray.size_extract]; omega) x hx
def u2y_ : FSpec := ⟨[.val .str, .val .str], [.val (.slice .str)], strings_Split, true⟩
theorem ubga_ : uo_ Go.Proofs.Tryz.prog 245 ∧ FunOK Go.Proofs.Tryz.prog 245 u2y_ := by
 refine ⟨uwh_ Tryz.func245 (by kernel_rfl) (by kernel_rfl), FunOK.given fun w I v args bs hm hsh r hr => ?_⟩
 obtain ⟨rfl, x, y, rfl, hx, hy⟩ := in2 hsh
 obtain ⟨rfl, h0⟩ := ubf8_ hx
 obtain ⟨rfl, h1⟩ := ubf8_ hy
 obtain ⟨⟨h2, h3⟩, hr⟩ := u68_ hr
 cases hr
 obtain ⟨m, hmm⟩ := (facts hm).2.2.2.1
 have h3' : 1 ≤ (⟨Array.mk v.2⟩ : ByteArray).size := h3
 have hlen := ub7k_ ⟨Array.mk v.2⟩ h3' _ ⟨Array.mk v.1⟩ rfl
 refine ⟨rfl, (Tryz.strings_Split ⟨v.1.toArray⟩ ⟨v.2.toArray⟩ m w (ub7f_ h2) hmm h3').mono fun e w' ⟨he, hw⟩ => ?_⟩
 have hs1 : w'.heap[w.heap.size]? = some (.cells ((Lib.splitB ⟨v.2.toArray⟩ 0 (Lib.countB ⟨v.1.toArray⟩ ⟨v.2.toArray⟩) ⟨v.1.toArray⟩).map Value.string).toArray 9 (0, 0)) := by
  rw [hw]
  show (w.heap.push _)[w.heap.size]? = _
  rw [Array.getElem?_push_size]
 have hbl : Below w.heap.size w w' := by rw [hw]; exact (Below.refl _ _).alloc (Nat.le_refl _) _
 refine ⟨_, [_], fun b o => b = w.heap.size, he, rfl, rfl, hbl, ?_, ?_, out1 ?_⟩
 · intro _; rw [hw]; exact Nat.le_refl _
 · rintro b o rfl; exact ⟨Nat.le_refl _, ub7e_ hs1⟩
 · have hcnt : Lib.countB ⟨Array.mk v.1⟩ ⟨Array.mk v.2⟩ ≤ v.1.length + 1 := Lib.count_le v.1 v.2
   have := ub7j_ (P := Tryz.prog) (I := I) (X := fun b o => b = w.heap.size) (xs := (Lib.splitB ⟨v.2.toArray⟩ 0 (Lib.countB ⟨v.1.toArray⟩ ⟨v.2.toArray⟩) ⟨v.1.toArray⟩).map fun b => b.data.toList)
    (cap := Lib.countB ⟨v.1.toArray⟩ ⟨v.2.toArray⟩ + 1) hs1 ?_ ?_ ?_ ?_ (fun o _ => rfl)
   · rw [List.length_map] at this
     rw [hlen] at this
     exact this
   · rw [List.length_map]; exact Nat.le_of_eq hlen
   · rw [List.length_map]; refine Nat.le_trans (Nat.le_of_eq hlen) ?_
     have h2' : v.1.length < 4294967281 := h2
     omega
   · intro i x hx
     rw [List.getElem?_map] at hx
     cases hb : (Lib.splitB ⟨v.2.toArray⟩ 0 (Lib.countB ⟨v.1.toArray⟩ ⟨v.2.toArray⟩) ⟨v.1.toArray⟩)[i]? with
     | none => rw [hb] at hx; cases hx
     | some b => rw [hb] at hx; cases hx; simp [hb]
   · intro x hx
     obtain ⟨b, hb, rfl⟩ := List.mem_map.1 hx
     have := ub7l_ ⟨v.2.toArray⟩ v.1.length _ ⟨v.1.toArray⟩ (Nat.le_of_eq (uxd_ v.1)) b hb
     have e : b.data.toList.length = b.size := rfl
     rw [e]
     exact Nat.le_trans this h0
theorem uccq_ {w : World} {I : Im} {xs : List Str} {v : Value} (h : VRel w I (.slice .str) xs v) :
 (∃ a cap, v = .slice a 0 cap ∧ xs = []) ∨ ∃ b o cap, v = .slice (some ⟨b, o, none⟩) xs.length cap ∧ b < w.heap.size ∧ xs.length ≤ cap ∧
  ∀ (j : Nat) x, xs[j]? = some x → w.cell? ⟨b, o + j, none⟩ = some (.string ⟨x.toArray⟩) ∧ x.length ≤ 281474976710656 := by
 obtain ⟨c, h1, a, cap, h2, h3, h4, h5⟩ := h
 have h1 : c = [v] := h1
 rw [h1] at h2
 have h2 : v = .slice a xs.length cap := List.singleton_inj.1 h2
 by_cases he : xs = []
 · subst he; exact .inl ⟨a, cap, h2, rfl⟩
 · right
   cases a with
   | none => exact absurd (h4 rfl).1 he
   | some ad =>
     obtain ⟨hsp, h6⟩ := h5 ad rfl
     obtain ⟨b, o, sp⟩ := ad
     have hsp : (⟨b, o, sp⟩ : Addr).spot = none := hsp fun h0 => he (List.eq_nil_of_length_eq_zero (Nat.le_zero.1 (h0 ▸ h3.1)))
     cases hsp
     have key : ∀ (j : Nat) x, xs[j]? = some x → w.cell? ⟨b, o + j, none⟩ = some (.string ⟨x.toArray⟩) ∧ x.length ≤ 281474976710656 := by
      intro j x hx
      obtain ⟨c', ⟨k1, k2⟩, k3, k4⟩ := h6 j x hx
      have := (k2 0 Nat.one_pos).2
      rw [k3] at this
      exact ⟨by rw [← show o + j * Ty.str.sz + 0 = o + j by show o + j * 1 + 0 = o + j; omega]; exact this, k4⟩
     have hpos : 0 < xs.length := List.length_pos_iff.2 he
     exact ⟨b, o, cap, h2, ub1e_ (key 0 xs[0] (List.getElem?_eq_getElem hpos)).1, h3.1, key⟩
def uni_ : FSpec := ⟨[.val (.slice .str), .val .str], [.val .str], strings_Join, false⟩
theorem urq_ : uo_ Go.Proofs.Tryz.prog 100 ∧ FunOK Go.Proofs.Tryz.prog 100 uni_ := by
 refine ⟨uwh_ Tryz.func100 (by kernel_rfl) (by kernel_rfl), FunOK.flat1 (t := .str) rfl rfl (fun args => by rcases args with _ | ⟨_, _ | ⟨_, _⟩⟩ <;> rfl) fun w I v args bs hm hsh r hr => ?_⟩
 obtain ⟨rfl, x, y, rfl, hx, hy⟩ := in2 hsh
 obtain ⟨rfl, h1⟩ := ubf8_ hy
 obtain ⟨⟨h2, h3⟩, hr⟩ := u68_ hr
 cases hr
 obtain ⟨xs, sep⟩ : List Str × Str := v
 have h3 : (Lib.join xs sep).length ≤ 140737488355328 := h3
 have hout : (Lib.join xs sep).length ≤ 281474976710656 := by omega
 rcases uccq_ hx with ⟨a, cap, rfl, hxs⟩ | ⟨b, o, cap, rfl, hb, hcap, hcell⟩
 · have hxs : xs = [] := hxs
   subst hxs
   have e : Lib.join [] sep = [] := by simp [Lib.join, List.intercalate]
   refine ⟨rfl, .string ⟨(Lib.join [] sep).toArray⟩, fun w' I' => out1 (ubf9_ hout), ?_⟩
   rw [e]
   exact (Tryz.strings_Join_none a cap ⟨sep.toArray⟩ w).mono fun e w' ⟨he, hw⟩ => ⟨he, ubvl_ hw⟩
 · refine ⟨rfl, .string ⟨(Lib.join xs sep).toArray⟩, fun w' I' => out1 (ubf9_ hout), ?_⟩
   have hm1 : (xs.map fun x => (⟨x.toArray⟩ : ByteArray)).map (fun b => b.data.toList) = xs := by
    rw [List.map_map]; exact List.map_id _
   have := Tryz.strings_Join b o cap (xs.map fun x => ⟨x.toArray⟩) ⟨sep.toArray⟩ w (fun j x hx => by
    rw [List.getElem?_map] at hx
    cases hj : xs[j]? with
    | none => rw [hj] at hx; cases hx
    | some z => rw [hj] at hx; cases hx; exact (hcell j z hj).1) hb (by rw [List.length_map]; exact h2) (by rw [List.length_map]; exact hcap) (by rw [hm1]; exact h3)
   rw [hm1, List.length_map] at this
   exact this.mono fun e w' ⟨he, hw⟩ => ⟨he, hw, fun h => by cases h⟩
theorem After.toBelow {gv : Nat → Prop} {w w' : World} {I I' : Im} (h : After gv w I w' I') (hg : ∀ b, ¬ gv b) : Below w.heap.size w w' :=
 ⟨h.os, h.tape, h.output, h.size, fun b hb => h.heap b hb (hg b)⟩
theorem ub9a_ {w w' : World} {I : Im} (hm : Mem w I) (hb : Below w.heap.size w w') : Ext w I w' I ∧ Mem w' I := by
 have he : Ext w I w' I := ⟨fun b o h => ⟨h, by simp only [World.cell?, hb.block b (hm.1 b o h)]⟩, fun b h => ⟨h, hb.block b (hm.2.1 b h)⟩⟩
 exact ⟨he, fun b o h => Nat.lt_of_lt_of_le (hm.1 b o h) hb.size, fun b h => Nat.lt_of_lt_of_le (hm.2.1 b h) hb.size, hm.2.2.ext he⟩
theorem ub5g_ {P : Program} {g : Nat} (h : uo_ P g) : ∀ args w, (callFunc g args).run P w = .ok (.enter g args) w := by
 obtain ⟨fn, c, h1, h2, h3⟩ := h
 intro args w
 have h2' : fn.name ≠ "runtime.NumGoroutine" := by simpa using h2
 simp [callFunc, h1, h2', h3]
theorem ub7m_ (p : Nat → Bool) (s : ByteArray) : ∀ x ∈ Lib.goFieldsP p s, x.size ≤ s.size := by
 intro x hx
 obtain ⟨q, _, rfl⟩ := List.mem_map.1 hx
 rw [ByteArray.size_extract]; omega
noncomputable def u02_ : FSpec := ⟨[.val .str, .hof false (.int .i32) .bool], [.val (.slice .str)], uhl_, false⟩
theorem ubi5_ : uo_ Go.Proofs.Tryz.prog 258 ∧ FunOK Go.Proofs.Tryz.prog 258 u02_ := by
 refine ⟨uwh_ Tryz.func258 (by kernel_rfl) (by kernel_rfl), FunOK.given fun w I v args bs hm hsh r hr => ?_⟩
 obtain ⟨a1, vs, b1, b2, rfl, rfl, ⟨hx, rfl⟩, a2, rfl, rfl, g, lb, ha2, hent, hof⟩ := hsh
 obtain ⟨rfl, h0⟩ := ubf8_ hx
 obtain rfl := List.singleton_inj.1 ha2
 obtain ⟨s, F⟩ : Str × (Int → Option Bool) := v
 have hr : uhl_ (s, F) = some r := hr
 unfold uhl_ at hr
 obtain ⟨⟨h1, h2, h3⟩, hr⟩ := u68_ hr
 cases hr
 have hp : PredGrows Tryz.prog g lb (fun r => (F (r : Int)).getD false) w := by
  intro W x hx hb
  obtain ⟨he, hm'⟩ := ub9a_ hm hb
  obtain ⟨b, hb'⟩ := h2 x hx
  have hb' : F (x : Int) = some b := hb'
  have := hof W I he hm' (x : Int) [.int .i32 x] ⟨_, rfl, ub4k_ ⟨by show (-2147483648 : Int) ≤ _; omega, by show _ ≤ (2147483647 : Int); omega⟩⟩ b hb'
  refine this.mono fun e w'' ⟨rv, I'', k1, k2, k3, _⟩ => ?_
  have hrv := uccn_ k3
  subst hrv
  show e = .returned (.bool ((F (x : Int)).getD false)) ∧ _
  rw [hb']
  exact ⟨k1, After.toBelow k2 fun _ h => h⟩
 have := Any.strings_FieldsFunc_grows Tryz.lays229 g lb (ub5g_ hent) (fun r => (F (r : Int)).getD false) ⟨s.toArray⟩ w (by rw [uxd_]; exact h1) hp (by kernel_rfl) (by kernel_rfl)
 refine ⟨rfl, this.mono fun e w' ⟨A, he, hA, hown, hbl⟩ => ?_⟩
 obtain ⟨_, hh | ⟨g', cap, cur, k1, k2, k3, k4, k5, k6, k7⟩⟩ := hown
 · cases hh.1
 · obtain ⟨rfl, rfl⟩ : A = g' ∧ (Lib.goFieldsP (fun r => (F (r : Int)).getD false) ⟨s.toArray⟩).length = cap := by injection k1 with e1 e2 e3; injection e1 with e1; injection e1 with e1; exact ⟨e1, e3⟩
   refine ⟨_, [_], fun b o => b = A, he, rfl, rfl, hbl, (fun h => by cases h), ?_, out1 ?_⟩
   · rintro b o rfl; exact ⟨hA, ub7e_ k3⟩
   · have := ub7j_ (P := Tryz.prog) (I := I) (X := fun b o => b = A) (xs := (Lib.goFieldsP (fun r => (F (r : Int)).getD false) ⟨s.toArray⟩).map fun b => b.data.toList)
      (cap := (Lib.goFieldsP (fun r => (F (r : Int)).getD false) ⟨s.toArray⟩).length) k3 (by rw [List.length_map]; exact Nat.le_refl _) (by rw [List.length_map]; exact h3) ?_ ?_ (fun o _ => rfl)
     · rw [List.length_map] at this
       exact this
     · intro i x hx
       rw [List.getElem?_map] at hx
       cases hb : (Lib.goFieldsP (fun r => (F (r : Int)).getD false) ⟨s.toArray⟩)[i]? with
       | none => rw [hb] at hx; cases hx
       | some b =>
         rw [hb] at hx
         cases hx
         have hi := (List.getElem?_eq_some_iff.1 hb).1
         have := congrArg (fun l => l[i]?) k7
         simp only [List.getElem?_take, List.getElem?_map, hb] at this
         rw [if_pos (by omega)] at this
         simpa using this
     · intro x hx
       obtain ⟨b, hb, rfl⟩ := List.mem_map.1 hx
       have := ub7m_ _ ⟨s.toArray⟩ b hb
       rw [uxd_] at this
       have e : b.data.toList.length = b.size := rfl
       rw [e]
       exact Nat.le_trans this h0
theorem ub1f_ {el : TypeId} (h : Lay Tryz.prog (.agg bldTy) el) : el = 247 := by
 have hall : ((List.range Tryz.prog.types.size).all fun i => !(layB Tryz.prog (.agg bldTy)).1 i || Nat.beq i 247) = true := by kernel_rfl
 have hlt : el < Tryz.prog.types.size := ucdb_ h.inf rfl
 have h1 := List.all_eq_true.1 hall el (List.mem_range.2 hlt)
 have h2 : (layB Tryz.prog (.agg bldTy)).1 el = true := h
 rw [h2] at h1
 exact Nat.eq_of_beq_eq_true h1
set_option maxHeartbeats 1000000 in
set_option maxRecDepth 100000 in
theorem uccr_ (b : Nat) (w : World) (h0 : w.cell? ⟨b, 0, none⟩ = some (.pointer (some ⟨b, 0, none⟩))) :
 Calls Tryz.prog 261 #[.pointer (some ⟨b, 0, none⟩)] w fun e w' => e = .returned (.tuple #[]) ∧ w' = w := by
 have mixed : Tryz.prog.follows .mixedOrders = true := by kernel_rfl
 have t72 := Tryz.underlying247; have a72 := Tryz.isAgg247; have z72 := Tryz.sizeOf247; have v72 := Tryz.zeroValue247; have u72 := run_underlying Tryz.underlying247
 have t70 := Tryz.underlying244; have a70 := Tryz.isAgg244; have z70 := Tryz.sizeOf244; have v70 := Tryz.zeroValue244; have u70 := run_underlying Tryz.underlying244
 have t4 := Tryz.underlying4; have a4 := Tryz.isAgg4; have z4 := Tryz.sizeOf4; have v4 := Tryz.zeroValue4; have u4 := run_underlying Tryz.underlying4
 obtain ⟨j, hj, _⟩ := Option.map_eq_some_iff.1 (show (Tryz.prog.info? 247).map (·.size) = some 2 by kernel_rfl)
 go_enter Tryz.func261, Tryz.ntmps261
 go_wp2
 rw [Lib.run_neq_ptr_same w _ Tryz.underlying244 hj]
 go_wp2
 go_end0
 exact ⟨rfl, rfl⟩
set_option maxHeartbeats 1000000 in
set_option maxRecDepth 100000 in
theorem ucbj_ (b : Nat) (w : World) (h0 : w.cell? ⟨b, 0, none⟩ = some (.pointer none)) (hsh : w.shape? b = some (247, 2)) (hfz : w.frozen? ⟨b, 0, none⟩ = false) :
 Calls Tryz.prog 261 #[.pointer (some ⟨b, 0, none⟩)] w fun e w' => e = .returned (.tuple #[]) ∧ w' = w.setCell ⟨b, 0, none⟩ (.pointer (some ⟨b, 0, none⟩)) := by
 obtain ⟨j, hj, hjs⟩ := Option.map_eq_some_iff.1 (show (Tryz.prog.info? 247).map (·.size) = some 2 by kernel_rfl)
 have mixed : Tryz.prog.follows .mixedOrders = true := by kernel_rfl
 have t72 := Tryz.underlying247; have a72 := Tryz.isAgg247; have z72 := Tryz.sizeOf247; have v72 := Tryz.zeroValue247; have u72 := run_underlying Tryz.underlying247
 have t70 := Tryz.underlying244; have a70 := Tryz.isAgg244; have z70 := Tryz.sizeOf244; have v70 := Tryz.zeroValue244; have u70 := run_underlying Tryz.underlying244
 have t4 := Tryz.underlying4; have a4 := Tryz.isAgg4; have z4 := Tryz.sizeOf4; have v4 := Tryz.zeroValue4; have u4 := run_underlying Tryz.underlying4
 have t164 := Tryz.underlying350; have a164 := Tryz.isAgg350; have z164 := Tryz.sizeOf350; have v164 := Tryz.zeroValue350; have u164 := run_underlying Tryz.underlying350
 go_enter Tryz.func261, Tryz.ntmps261
 go_wp2
 rw [Lib.run_to_unsafe w ⟨b, 0, none⟩ Tryz.underlying244 Tryz.underlying350 hj (by rw [hjs]; decide) hsh (Nat.zero_lt_succ 1)]
 simp only [Result.andThen]
 rw [Oper.upon_value]
 go_wp2
 rw [run_callFunc_extern Tryz.func318 (by kernel_rfl) (by kernel_rfl) (by kernel_rfl) (e := Extern.AbiNoEscape.same) (by kernel_rfl)]
 rw [Lib.run_noEscape]
 simp only [Result.andThen]
 rw [Oper.upon_value]
 go_wp2
 rw [Lib.run_from_unsafe w ⟨b, 0, none⟩ Tryz.underlying350 Tryz.underlying244 hj hsh (by kernel_rfl)]
 simp only [Result.andThen]
 rw [Oper.upon_value]
 go_wp2
 go_end0
 exact ⟨rfl, rfl⟩
theorem cell1 {w : World} {b : Nat} {cells : Array Value} {p q : Value} {el : TypeId} {fz : Nat × Nat} (hb : w.heap[b]? = some (.cells cells el fz)) (hc : cells.toList = [p, q]) :
 w.cell? ⟨b, 0, none⟩ = some p ∧ w.cell? ⟨b, 1, none⟩ = some q := by
 have : cells = #[p, q] := by apply Array.ext'; exact hc
 subst this
 exact ⟨by simp only [World.cell?, hb]; rfl, by simp only [World.cell?, hb]; rfl⟩
set_option maxHeartbeats 2000000 in
set_option maxRecDepth 100000 in
theorem ucdq_ (b g cap : Nat) (l : List UInt8) (w : World) (cur : Array Value) (fz : Nat × Nat) (hb : w.cell? ⟨b, 1, none⟩ = some (.slice (some ⟨g, 0, none⟩) l.length cap)) (h0 : l ≠ [])
 (hg : w.heap[g]? = some (.cells cur 5 fz)) (hcap : l.length ≤ cap) (hcs : cur.size = cap) (hmax : l.length ≤ 281474976710656) (hx : ∀ (j : Nat) x, l[j]? = some x → cur[j]? = some (.int .u8 x.toNat)) :
 Calls Tryz.prog 182 #[.pointer (some ⟨b, 0, none⟩)] w fun e w' => e = .returned (.string ⟨l.toArray⟩) ∧ w' = w.drew.freeze ⟨g, 0, none⟩ l.length := by
 have hl0 : l.length ≠ 0 := by simpa using h0
 have c1 : w.drew.cell? ⟨b, 1, none⟩ = some (.slice (some ⟨g, 0, none⟩) l.length cap) := hb
 have hSD : (Builtin.unsafeSliceData_ #[245] 308 #[.slice (some ⟨g, 0, none⟩) l.length cap]).run Tryz.prog w.drew = .ok (.pointer (some ⟨g, 0, none⟩)) w.drew :=
  Lib.run_unsafeSliceData_row _ _ _ _ _ _ (by omega)
 have hUS : (Builtin.unsafeString_ #[308, 3] 9 #[.pointer (some ⟨g, 0, none⟩), .int .i64 l.length]).run Tryz.prog w.drew = .ok (.string ⟨l.toArray⟩) (w.drew.freeze ⟨g, 0, none⟩ l.length) := by
  refine Lib.run_unsafeString_row w.drew 308 3 9 5 Tryz.underlying308 (by kernel_rfl) g cur.size (by have hg' : w.drew.heap[g]? = some (.cells cur 5 fz) := hg; simp [World.shape?, hg']) l h0 (by omega) (by omega) ?_
  intro j x hj
  have hg' : w.drew.heap[g]? = some (.cells cur 5 fz) := hg
  have ha : (⟨g, 0, none⟩ : Addr).add j = ⟨g, j, none⟩ := by simp [Addr.add]; exact fun h => h.symm
  rw [ha]
  simp only [World.cell?, hg', hx j x hj]
  rfl
 clear hx hcs hg hcap hmax h0
 have mixed : Tryz.prog.follows .mixedOrders = true := by kernel_rfl
 have t72 := Tryz.underlying247; have a72 := Tryz.isAgg247; have z72 := Tryz.sizeOf247; have v72 := Tryz.zeroValue247; have u72 := run_underlying Tryz.underlying247
 have t70 := Tryz.underlying244; have a70 := Tryz.isAgg244; have z70 := Tryz.sizeOf244; have v70 := Tryz.zeroValue244; have u70 := run_underlying Tryz.underlying244
 have t37 := Tryz.underlying245; have a37 := Tryz.isAgg245; have z37 := Tryz.sizeOf245; have v37 := Tryz.zeroValue245; have u37 := run_underlying Tryz.underlying245
 have t127 := Tryz.underlying308; have a127 := Tryz.isAgg308; have z127 := Tryz.sizeOf308; have v127 := Tryz.zeroValue308; have u127 := run_underlying Tryz.underlying308
 have t3 := Tryz.underlying3; have a3 := Tryz.isAgg3; have z3 := Tryz.sizeOf3; have v3 := Tryz.zeroValue3; have u3 := run_underlying Tryz.underlying3
 have t9 := Tryz.underlying9; have a9 := Tryz.isAgg9; have z9 := Tryz.sizeOf9; have v9 := Tryz.zeroValue9; have u9 := run_underlying Tryz.underlying9
 have t5 := Tryz.underlying5; have a5 := Tryz.isAgg5; have z5 := Tryz.sizeOf5; have v5 := Tryz.zeroValue5; have u5 := run_underlying Tryz.underlying5
 go_enter Tryz.func182, Tryz.ntmps182
 go_wp2
 go_region_o
 all_goals (go_wp2; go_ret; exact ⟨rfl, rfl⟩)
set_option maxHeartbeats 2000000 in
set_option maxRecDepth 100000 in
theorem ub9b_ (b g : Nat) (w : World) (cur : Array Value) (fz : Nat × Nat) (hb : w.cell? ⟨b, 1, none⟩ = some (.slice (some ⟨g, 0, none⟩) 0 0)) (hg : w.heap[g]? = some (.cells cur 5 fz)) :
 Calls Tryz.prog 182 #[.pointer (some ⟨b, 0, none⟩)] w fun e w' => e = .returned (.string ⟨#[]⟩) ∧ Below w.heap.size w w' := by
 have hUS : ∀ (W : World) (q : Option Addr), (Builtin.unsafeString_ #[308, 3] 9 #[.pointer q, .int .i64 0]).run Tryz.prog W = .ok (.string .empty) W := fun W q => Lib.run_unsafeString_none W _ _ _ q
 have hlt := ub1e_ hb
 have c1 : w.drew.cell? ⟨b, 1, none⟩ = some (.slice (some ⟨g, 0, none⟩) 0 0) := hb
 have hSD : (Builtin.unsafeSliceData_ #[245] 308 #[.slice (some ⟨g, 0, none⟩) 0 0]).run Tryz.prog w.drew = .ok (.pointer (some ⟨w.drew.heap.size, 0, none⟩)) (w.drew.alloc (.view ⟨g, 0, none⟩ 5)) :=
  Lib.run_unsafeSliceData_zero w.drew _ _ 5 Tryz.underlying308 ⟨g, 0, none⟩ 0 (5, cur.size) (by have hg' : w.drew.heap[g]? = some (.cells cur 5 fz) := hg; simp [World.shape?, hg'])
 have hB : Below w.heap.size w (w.drew.alloc (.view ⟨g, 0, none⟩ 5)) := (Below.drew (Below.refl _ w)).alloc (Nat.le_refl _) _
 have c2 : (w.drew.alloc (.view ⟨g, 0, none⟩ 5)).cell? ⟨b, 1, none⟩ = some (.slice (some ⟨g, 0, none⟩) 0 0) := (hB.cell hlt).trans hb
 have c3 : (w.alloc (.view ⟨g, 0, none⟩ 5)).drew.cell? ⟨b, 1, none⟩ = some (.slice (some ⟨g, 0, none⟩) 0 0) := c2
 have mixed : Tryz.prog.follows .mixedOrders = true := by kernel_rfl
 have t72 := Tryz.underlying247; have a72 := Tryz.isAgg247; have z72 := Tryz.sizeOf247; have v72 := Tryz.zeroValue247; have u72 := run_underlying Tryz.underlying247
 have t70 := Tryz.underlying244; have a70 := Tryz.isAgg244; have z70 := Tryz.sizeOf244; have v70 := Tryz.zeroValue244; have u70 := run_underlying Tryz.underlying244
 have t37 := Tryz.underlying245; have a37 := Tryz.isAgg245; have z37 := Tryz.sizeOf245; have v37 := Tryz.zeroValue245; have u37 := run_underlying Tryz.underlying245
 have t127 := Tryz.underlying308; have a127 := Tryz.isAgg308; have z127 := Tryz.sizeOf308; have v127 := Tryz.zeroValue308; have u127 := run_underlying Tryz.underlying308
 have t3 := Tryz.underlying3; have a3 := Tryz.isAgg3; have z3 := Tryz.sizeOf3; have v3 := Tryz.zeroValue3; have u3 := run_underlying Tryz.underlying3
 have t9 := Tryz.underlying9; have a9 := Tryz.isAgg9; have z9 := Tryz.sizeOf9; have v9 := Tryz.zeroValue9; have u9 := run_underlying Tryz.underlying9
 have t5 := Tryz.underlying5; have a5 := Tryz.isAgg5; have z5 := Tryz.sizeOf5; have v5 := Tryz.zeroValue5; have u5 := run_underlying Tryz.underlying5
 go_enter Tryz.func182, Tryz.ntmps182
 go_wp2
 go_region_o
 all_goals (go_wp2; go_ret; exact ⟨rfl, hB⟩)
theorem After.only {w w' : World} {I : Im} (hm : Mem w I) {b : Nat} {bs : List Nat} (hb : b ∈ bs) (hI : ∀ o, ¬ I.cell b o) (hO : ¬ I.obj b) (hh : ∀ k, k ≠ b → w'.heap[k]? = w.heap[k]?) (hs : w'.heap.size = w.heap.size)
 (hos : w'.os = w.os) (ht : w'.tape = w.tape) (ho : w'.output = w.output) : After (· ∈ bs) w I w' I := by
 have hx : Ext w I w' I := ⟨fun k o h => ⟨h, by simp only [World.cell?, hh k (fun e => hI o (e ▸ h))]⟩, fun k h => ⟨h, hh k (fun e => hO (e ▸ h))⟩⟩
 exact ⟨hx, fun k _ hk => hh k (fun e => hk (e ▸ hb)), Nat.le_of_eq hs.symm, fun _ _ h => .inl h, fun _ h => .inl h, fun k o h => hs ▸ hm.1 k o h, fun k h => hs ▸ hm.2.1 k h, hos, ht, ho, hm.2.2.ext hx⟩
theorem ub5h_ {w : World} {b o : Nat} {v : Value} {k : Nat} (h : k ≠ b) : (w.setCell ⟨b, o, none⟩ v).heap[k]? = w.heap[k]? := Below.heap_setCell w ⟨b, o, none⟩ v k h
def uhs_ : FSpec := ⟨[.bld 5 false], [], ugr_, false⟩
theorem uo3_ : uo_ Go.Proofs.Tryz.prog 261 ∧ FunOK Go.Proofs.Tryz.prog 261 uhs_ := by
 refine ⟨uwh_ Tryz.func261 (by kernel_rfl) (by kernel_rfl), fun w I v args bs hm hsh hnd r hr => ?_⟩
 cases hr
 obtain ⟨v1, rfl, b, cells, el, p, q, bs', e1, rfl, h1, hlay, h2, hp, h4, h5, h6⟩ := hsh
 obtain rfl := List.singleton_inj.1 e1
 obtain rfl := ub1f_ hlay
 obtain ⟨c0, c1⟩ := cell1 h1 h2
 have hnd' := List.nodup_cons.1 hnd
 rcases hp with rfl | rfl
 · have hsh : w.shape? b = some (247, 2) := by
    have : cells.size = 2 := by rw [← Array.length_toList, h2]; rfl
    simp [World.shape?, h1, this]
   refine (ucbj_ b w c0 hsh (by simp [World.frozen?, h1])).mono fun e w' ⟨he, hw⟩ => ?_
   have hh : ∀ k, k ≠ b → w'.heap[k]? = w.heap[k]? := fun k hk => by rw [hw]; exact ub5h_ hk
   have hs : w'.heap.size = w.heap.size := by rw [hw]; simp [World.setCell]
   have hbk : w'.heap[b]? = some (.cells #[.pointer (some ⟨b, 0, none⟩), q] 247 (0, 0)) := by
    have hc : cells = #[.pointer none, q] := by apply Array.ext'; exact h2
    subst hc
    rw [hw]
    simp only [World.setCell, Array.getElem?_modify, h1]
    simp
   refine ⟨_, [], I, b :: bs', he, rfl, rfl, After.only hm List.mem_cons_self h4 h5 hh hs (by rw [hw]; rfl) (by rw [hw]; rfl) (by rw [hw]; rfl), ?_, hnd, fun b hb => .inl hb, fun h => by cases h⟩
   refine ⟨_, rfl, b, _, 247, _, q, bs', rfl, rfl, hbk, hlay, rfl, .inr rfl, h4, h5, ?_⟩
   rcases h6 with h6 | ⟨g, cap, gc, k1, k2, k3, ⟨fz, k4, k4'⟩, k5, k6, k7, k8⟩
   · exact .inl h6
   · have hgb : g ≠ b := by rw [k2] at hnd'; intro e; exact hnd'.1 (by rw [e]; exact List.mem_singleton_self _)
     refine .inr ⟨g, cap, gc, k1, k2, k3, ⟨fz, (hh g hgb).trans k4, k4'⟩, k5, ?_, k7, k8⟩
     have hx : Ext w I w' I := (After.only hm (bs := b :: bs') List.mem_cons_self h4 h5 hh hs (by rw [hw]; rfl) (by rw [hw]; rfl) (by rw [hw]; rfl)).ext
     exact fun i x hx' => (k6 i x hx').ext hx
 · refine (uccr_ b w c0).mono fun e w' ⟨he, hw⟩ => ?_
   subst hw
   refine ⟨_, [], I, b :: bs', he, rfl, rfl, After.refl hm, ?_, hnd, fun b hb => .inl hb, fun h => by cases h⟩
   exact ⟨_, rfl, b, cells, 247, _, q, bs', rfl, rfl, h1, hlay, h2, .inr rfl, h4, h5, h6⟩
theorem ub7n_ {w : World} {b n : Nat} {k : Nat} (h : k ≠ b) : (w.freeze ⟨b, 0, none⟩ n).heap[k]? = w.heap[k]? := by
 unfold World.freeze
 split
 · rfl
 · simp only [Array.getElem?_modify]
   rw [if_neg (fun e => h e.symm)]
theorem ub5i_ {w : World} {a : Addr} {n : Nat} : (w.freeze a n).heap.size = w.heap.size := by
 unfold World.freeze
 split
 · rfl
 · simp
theorem ub9c_ {w : World} {a : Addr} {n : Nat} : (w.freeze a n).os = w.os ∧ (w.freeze a n).tape = w.tape ∧ (w.freeze a n).output = w.output := by
 unfold World.freeze
 split <;> exact ⟨rfl, rfl, rfl⟩
theorem ucbk_ {xs : List Int} (h : ∀ x ∈ xs, uop_ .u8 x) : xs = ues_ (strOf xs) := by
 unfold ues_ strOf
 rw [List.map_map]
 conv => lhs; rw [← List.map_id xs]
 refine List.map_congr_left fun x hx => ?_
 have h1 : 0 ≤ x ∧ x ≤ 255 := h x hx
 show x = ((UInt8.ofNat x.toNat).toNat : Int)
 rw [UInt8.toNat_ofNat']
 omega
def ubw_ : FSpec := ⟨[.bld 5 true], [.val .str], ub4_, false⟩
theorem ucf_ : uo_ Go.Proofs.Tryz.prog 182 ∧ FunOK Go.Proofs.Tryz.prog 182 ubw_ := by
 refine ⟨uwh_ Tryz.func182 (by kernel_rfl) (by kernel_rfl), fun w I v args bs hm hsh hnd r hr => ?_⟩
 cases hr
 obtain ⟨v1, rfl, b, cells, el, p, q, bs', e1, rfl, h1, hlay, h2, hp, h4, h5, h6⟩ := hsh
 obtain rfl := List.singleton_inj.1 e1
 obtain rfl := ub1f_ hlay
 obtain ⟨c0, c1⟩ := cell1 h1 h2
 have hnd' := List.nodup_cons.1 hnd
 have hcells : cells = #[p, q] := by apply Array.ext'; exact h2
 subst hcells
 have empty : ∀ (w' : World) (e : Ending), (show List Int from v) = [] → e = .returned (.string ⟨#[]⟩) → Below w.heap.size w w' → ∃ rv vs I' bs'', e = .returned rv ∧ vs.length = 1 ∧ retIs vs rv ∧ After (· ∈ b :: bs') w I w' I' ∧
  ShL Tryz.prog w' I' [.val .str] (strOf v) (vs ++ []) bs'' ∧ bs''.Nodup ∧ (∀ k ∈ bs'', k ∈ b :: bs' ∨ w.heap.size ≤ k) ∧ (false = true → w.drawn ≤ w'.drawn) := by
  intro w' e hv he hb
  refine ⟨_, [_], imNew I noX, [], he, rfl, rfl, (After.below hm hb ub22_).mono (fun k hk => by cases hk), ?_, .nil, (fun k hk => by cases hk), fun h => by cases h⟩
  have : strOf v = [] := by have hv : v = ([] : List Int) := hv; rw [hv]; rfl
  rw [this]
  exact out1 (ubf9_ (x := []) (by decide))
 rcases h6 with ⟨rfl, k1, k2⟩ | ⟨g, cap, gc, rfl, k2, k3, ⟨fz, k4, k4'⟩, k5, k6, k7, k8⟩
 · exact (Any.Builder_String_nil Tryz.lays169 Tryz.Builder_Extra_169 w.heap.size b p w h1).mono fun e w' ⟨he, hb⟩ => empty w' e k1 he hb
 · obtain ⟨xs, hxs⟩ : ∃ xs : List Int, xs = v := ⟨v, rfl⟩
   subst hxs
   have k3 : LenOK xs.length cap := k3
   have k5 : gc.size = cap := by rw [k5]; exact Nat.mul_one _
   by_cases h0 : xs = []
   · subst h0
     by_cases hc : cap = 0
     · subst hc
       exact (ub9b_ b g w gc fz c1 k4).mono fun e w' ⟨he, hb⟩ => empty w' e rfl he hb
     · exact (Any.Builder_String_room Tryz.lays169 Tryz.Builder_Extra_169 w.heap.size b g cap p w hc h1).mono fun e w' ⟨he, hb⟩ => empty w' e rfl he hb
   · have hrow : ∀ (j : Nat) x, xs[j]? = some x → gc[j]? = some (.int .u8 x) ∧ uop_ .u8 x := by
      intro j x hx
      obtain ⟨e1, e2⟩ := k6 j x hx
      refine ⟨?_, e2⟩
      have e1 : ((gc.toList.drop (j * 1)).take 1) = [.int .u8 x] := e1
      have := congrArg (fun l => l[0]?) e1
      simpa using this
     have hk : ∀ x ∈ xs, uop_ .u8 x := fun x hx => let ⟨j, hj⟩ := List.getElem?_of_mem hx; (hrow j x hj).2
     have hb : xs = ues_ (strOf xs) := ucbk_ hk
     have hl : (strOf xs).length = xs.length := by simp [strOf]
     refine (ucdq_ b g cap (strOf xs) w gc fz (by rw [hl]; exact c1) (fun e => h0 (by rw [hb, e]; rfl)) k4 (by rw [hl]; exact k3.1) k5 (by rw [hl]; exact k3.2) (fun j x hj => ?_)).mono fun e w' ⟨he, hw⟩ => ?_
     · have : xs[j]? = some (x.toNat : Int) := by rw [hb]; simp [ues_, hj]
       exact (hrow j _ this).1
     · obtain ⟨o1, o2, o3⟩ := ub9c_ (w := w.drew) (a := ⟨g, 0, none⟩) (n := (strOf xs).length)
       refine ⟨_, [_], I, [], he, rfl, rfl, After.only hm (b := g) (by rw [k2]; simp) k7 k8 (fun k hk => by rw [hw]; exact ub7n_ hk) (by rw [hw]; exact ub5i_) (by rw [hw]; exact o1) (by rw [hw]; exact o2) (by rw [hw]; exact o3), ?_, .nil, (fun k hk => by cases hk), fun h => by cases h⟩
       exact out1 (ubf9_ (by rw [hl]; exact k3.2))
end Go.Ev.Pv
namespace Go.Proofs
open Go.Shelf
def Tryz.sort35_ren : Go.Shelf.Ren := ⟨fun | 6 => 35 | 15 => 68 | 14 => 67 | 28 => 120 | 29 => 121 | 20 => 112 | 21 => 113 | 22 => 114 | 23 => 115 | 24 => 116 | 25 => 117 | 26 => 118 | 27 => 119 | 46 => 214 | 47 => 215 | 48 => 216 | 49 => 217 | 50 => 218 | 57 => 291 | n => n, fun | 22 => 77 | 24 => 80 | 25 => 83 | 3 => 3 | 39 => 131 | 0 => 0 | 53 => 190 | 55 => 192 | 4 => 4 | 46 => 184 | 45 => 183 | 50 => 123 | 5 => 5 | 9 => 9 | 66 => 274 | 70 => 278 | 76 => 329 | 77 => 330 | n => n, fun | n => n⟩
theorem Tryz.sort35 : Go.Proofs.SlLaysF0.n6 Tryz.prog Tryz.sort35_ren := {
 mixed := by kernel_rfl
 f6 := ⟨Tryz.f35.name, by decide, Tryz.func35.trans (congrArg some (by kernel_rfl))⟩
 f14 := ⟨Tryz.f67.name, by decide, Tryz.func67.trans (congrArg some (by kernel_rfl))⟩
 f15 := Tryz.func68.trans (congrArg some (by kernel_rfl))
 f20 := ⟨Tryz.f112.name, by decide, Tryz.func112.trans (congrArg some (by kernel_rfl))⟩
 f21 := ⟨Tryz.f113.name, by decide, Tryz.func113.trans (congrArg some (by kernel_rfl))⟩
 f22 := ⟨Tryz.f114.name, by decide, Tryz.func114.trans (congrArg some (by kernel_rfl))⟩
 f23 := ⟨Tryz.f115.name, by decide, Tryz.func115.trans (congrArg some (by kernel_rfl))⟩
 f24 := ⟨Tryz.f116.name, by decide, Tryz.func116.trans (congrArg some (by kernel_rfl))⟩
 f25 := ⟨Tryz.f117.name, by decide, Tryz.func117.trans (congrArg some (by kernel_rfl))⟩
 f26 := ⟨Tryz.f118.name, by decide, Tryz.func118.trans (congrArg some (by kernel_rfl))⟩
 f27 := ⟨Tryz.f119.name, by decide, Tryz.func119.trans (congrArg some (by kernel_rfl))⟩
 f28 := Tryz.func120.trans (congrArg some (by kernel_rfl))
 f29 := Tryz.func121.trans (congrArg some (by kernel_rfl))
 f46 := ⟨Tryz.f214.name, by decide, Tryz.func214.trans (congrArg some (by kernel_rfl))⟩
 f47 := Tryz.func215.trans (congrArg some (by kernel_rfl))
 f48 := Tryz.func216.trans (congrArg some (by kernel_rfl))
 f49 := ⟨Tryz.f217.name, by decide, Tryz.func217.trans (congrArg some (by kernel_rfl))⟩
 f50 := ⟨Tryz.f218.name, by decide, Tryz.func218.trans (congrArg some (by kernel_rfl))⟩
 f57 := ⟨Tryz.f291.name, by decide, Tryz.func291.trans (congrArg some (by kernel_rfl))⟩
 t0 := Tryz.underlying0
 a0 := Tryz.isAgg0
 z0 := Tryz.sizeOf0
 v0 := Tryz.zeroValue0
 t3 := Tryz.underlying3
 a3 := Tryz.isAgg3
 z3 := Tryz.sizeOf3
 v3 := Tryz.zeroValue3
 t4 := Tryz.underlying4
 a4 := Tryz.isAgg4
 z4 := Tryz.sizeOf4
 v4 := Tryz.zeroValue4
 t5 := Tryz.underlying5
 a5 := Tryz.isAgg5
 z5 := Tryz.sizeOf5
 v5 := Tryz.zeroValue5
 t9 := Tryz.underlying9
 a9 := Tryz.isAgg9
 z9 := Tryz.sizeOf9
 v9 := Tryz.zeroValue9
 t22 := Tryz.underlying77
 a22 := Tryz.isAgg77
 z22 := Tryz.sizeOf77
 v22 := Tryz.zeroValue77
 t25 := Tryz.underlying83
 a25 := Tryz.isAgg83
 z25 := Tryz.sizeOf83
 v25 := Tryz.zeroValue83
 t39 := Tryz.underlying131
 a39 := Tryz.isAgg131
 z39 := Tryz.sizeOf131
 v39 := Tryz.zeroValue131
 t45 := Tryz.underlying183
 a45 := Tryz.isAgg183
 z45 := Tryz.sizeOf183
 v45 := Tryz.zeroValue183
 t46 := Tryz.underlying184
 a46 := Tryz.isAgg184
 z46 := Tryz.sizeOf184
 v46 := Tryz.zeroValue184
 t50 := Tryz.underlying123
 a50 := Tryz.isAgg123
 z50 := Tryz.sizeOf123
 v50 := Tryz.zeroValue123
 t53 := Tryz.underlying190
 a53 := Tryz.isAgg190
 z53 := Tryz.sizeOf190
 v53 := Tryz.zeroValue190
 t55 := Tryz.underlying192
 a55 := Tryz.isAgg192
 z55 := Tryz.sizeOf192
 v55 := Tryz.zeroValue192
 t66 := Tryz.underlying274
 a66 := Tryz.isAgg274
 z66 := Tryz.sizeOf274
 v66 := Tryz.zeroValue274
 t70 := Tryz.underlying278
 a70 := Tryz.isAgg278
 z70 := Tryz.sizeOf278
 v70 := Tryz.zeroValue278
 t76 := Tryz.underlying329
 a76 := Tryz.isAgg329
 z76 := Tryz.sizeOf329
 v76 := Tryz.zeroValue329
 t77 := Tryz.underlying330
 a77 := Tryz.isAgg330
 z77 := Tryz.sizeOf330
 v77 := Tryz.zeroValue330 }
def Tryz.sort46_ren : Go.Shelf.Ren := ⟨fun | 6 => 46 | 15 => 68 | 14 => 72 | 28 => 120 | 29 => 121 | 20 => 124 | 21 => 125 | 22 => 126 | 23 => 127 | 24 => 128 | 25 => 129 | 26 => 130 | 27 => 131 | 46 => 219 | 47 => 215 | 48 => 216 | 49 => 220 | 50 => 221 | 57 => 292 | n => n, fun | 22 => 88 | 24 => 94 | 25 => 97 | 3 => 3 | 39 => 131 | 0 => 0 | 53 => 190 | 55 => 192 | 4 => 4 | 46 => 184 | 45 => 183 | 50 => 123 | 5 => 5 | 9 => 9 | 66 => 274 | 70 => 278 | 76 => 329 | 77 => 330 | n => n, fun | n => n⟩
theorem Tryz.sort46 : Go.Proofs.SlLaysF0.n6 Tryz.prog Tryz.sort46_ren := {
 mixed := by kernel_rfl
 f6 := ⟨Tryz.f46.name, by decide, Tryz.func46.trans (congrArg some (by kernel_rfl))⟩
 f14 := ⟨Tryz.f72.name, by decide, Tryz.func72.trans (congrArg some (by kernel_rfl))⟩
 f15 := Tryz.func68.trans (congrArg some (by kernel_rfl))
 f20 := ⟨Tryz.f124.name, by decide, Tryz.func124.trans (congrArg some (by kernel_rfl))⟩
 f21 := ⟨Tryz.f125.name, by decide, Tryz.func125.trans (congrArg some (by kernel_rfl))⟩
 f22 := ⟨Tryz.f126.name, by decide, Tryz.func126.trans (congrArg some (by kernel_rfl))⟩
 f23 := ⟨Tryz.f127.name, by decide, Tryz.func127.trans (congrArg some (by kernel_rfl))⟩
 f24 := ⟨Tryz.f128.name, by decide, Tryz.func128.trans (congrArg some (by kernel_rfl))⟩
 f25 := ⟨Tryz.f129.name, by decide, Tryz.func129.trans (congrArg some (by kernel_rfl))⟩
 f26 := ⟨Tryz.f130.name, by decide, Tryz.func130.trans (congrArg some (by kernel_rfl))⟩
 f27 := ⟨Tryz.f131.name, by decide, Tryz.func131.trans (congrArg some (by kernel_rfl))⟩
 f28 := Tryz.func120.trans (congrArg some (by kernel_rfl))
 f29 := Tryz.func121.trans (congrArg some (by kernel_rfl))
 f46 := ⟨Tryz.f219.name, by decide, Tryz.func219.trans (congrArg some (by kernel_rfl))⟩
 f47 := Tryz.func215.trans (congrArg some (by kernel_rfl))
 f48 := Tryz.func216.trans (congrArg some (by kernel_rfl))
 f49 := ⟨Tryz.f220.name, by decide, Tryz.func220.trans (congrArg some (by kernel_rfl))⟩
 f50 := ⟨Tryz.f221.name, by decide, Tryz.func221.trans (congrArg some (by kernel_rfl))⟩
 f57 := ⟨Tryz.f292.name, by decide, Tryz.func292.trans (congrArg some (by kernel_rfl))⟩
 t0 := Tryz.underlying0
 a0 := Tryz.isAgg0
 z0 := Tryz.sizeOf0
 v0 := Tryz.zeroValue0
 t3 := Tryz.underlying3
 a3 := Tryz.isAgg3
 z3 := Tryz.sizeOf3
 v3 := Tryz.zeroValue3
 t4 := Tryz.underlying4
 a4 := Tryz.isAgg4
 z4 := Tryz.sizeOf4
 v4 := Tryz.zeroValue4
 t5 := Tryz.underlying5
 a5 := Tryz.isAgg5
 z5 := Tryz.sizeOf5
 v5 := Tryz.zeroValue5
 t9 := Tryz.underlying9
 a9 := Tryz.isAgg9
 z9 := Tryz.sizeOf9
 v9 := Tryz.zeroValue9
 t22 := Tryz.underlying88
 a22 := Tryz.isAgg88
 z22 := Tryz.sizeOf88
 v22 := Tryz.zeroValue88
 t25 := Tryz.underlying97
 a25 := Tryz.isAgg97
 z25 := Tryz.sizeOf97
 v25 := Tryz.zeroValue97
 t39 := Tryz.underlying131
 a39 := Tryz.isAgg131
 z39 := Tryz.sizeOf131
 v39 := Tryz.zeroValue131
 t45 := Tryz.underlying183
 a45 := Tryz.isAgg183
 z45 := Tryz.sizeOf183
 v45 := Tryz.zeroValue183
 t46 := Tryz.underlying184
 a46 := Tryz.isAgg184
 z46 := Tryz.sizeOf184
 v46 := Tryz.zeroValue184
 t50 := Tryz.underlying123
 a50 := Tryz.isAgg123
 z50 := Tryz.sizeOf123
 v50 := Tryz.zeroValue123
 t53 := Tryz.underlying190
 a53 := Tryz.isAgg190
 z53 := Tryz.sizeOf190
 v53 := Tryz.zeroValue190
 t55 := Tryz.underlying192
 a55 := Tryz.isAgg192
 z55 := Tryz.sizeOf192
 v55 := Tryz.zeroValue192
 t66 := Tryz.underlying274
 a66 := Tryz.isAgg274
 z66 := Tryz.sizeOf274
 v66 := Tryz.zeroValue274
 t70 := Tryz.underlying278
 a70 := Tryz.isAgg278
 z70 := Tryz.sizeOf278
 v70 := Tryz.zeroValue278
 t76 := Tryz.underlying329
 a76 := Tryz.isAgg329
 z76 := Tryz.sizeOf329
 v76 := Tryz.zeroValue329
 t77 := Tryz.underlying330
 a77 := Tryz.isAgg330
 z77 := Tryz.sizeOf330
 v77 := Tryz.zeroValue330 }
def Tryz.sort63_ren : Go.Shelf.Ren := ⟨fun | 6 => 63 | 15 => 68 | 14 => 110 | 28 => 120 | 29 => 121 | 20 => 204 | 21 => 205 | 22 => 206 | 23 => 207 | 24 => 208 | 25 => 209 | 26 => 210 | 27 => 211 | 46 => 288 | 47 => 215 | 48 => 216 | 49 => 289 | 50 => 290 | 57 => 328 | n => n, fun | 22 => 36 | 24 => 50 | 25 => 82 | 3 => 3 | 39 => 131 | 0 => 0 | 53 => 190 | 55 => 192 | 4 => 4 | 46 => 184 | 45 => 183 | 50 => 123 | 5 => 5 | 9 => 9 | 66 => 274 | 70 => 278 | 76 => 329 | 77 => 330 | n => n, fun | n => n⟩
theorem Tryz.sort63 : Go.Proofs.SlLaysF0.n6 Tryz.prog Tryz.sort63_ren := {
 mixed := by kernel_rfl
 f6 := ⟨Tryz.f63.name, by decide, Tryz.func63.trans (congrArg some (by kernel_rfl))⟩
 f14 := ⟨Tryz.f110.name, by decide, Tryz.func110.trans (congrArg some (by kernel_rfl))⟩
 f15 := Tryz.func68.trans (congrArg some (by kernel_rfl))
 f20 := ⟨Tryz.f204.name, by decide, Tryz.func204.trans (congrArg some (by kernel_rfl))⟩
 f21 := ⟨Tryz.f205.name, by decide, Tryz.func205.trans (congrArg some (by kernel_rfl))⟩
 f22 := ⟨Tryz.f206.name, by decide, Tryz.func206.trans (congrArg some (by kernel_rfl))⟩
 f23 := ⟨Tryz.f207.name, by decide, Tryz.func207.trans (congrArg some (by kernel_rfl))⟩
 f24 := ⟨Tryz.f208.name, by decide, Tryz.func208.trans (congrArg some (by kernel_rfl))⟩
 f25 := ⟨Tryz.f209.name, by decide, Tryz.func209.trans (congrArg some (by kernel_rfl))⟩
 f26 := ⟨Tryz.f210.name, by decide, Tryz.func210.trans (congrArg some (by kernel_rfl))⟩
 f27 := ⟨Tryz.f211.name, by decide, Tryz.func211.trans (congrArg some (by kernel_rfl))⟩
 f28 := Tryz.func120.trans (congrArg some (by kernel_rfl))
 f29 := Tryz.func121.trans (congrArg some (by kernel_rfl))
 f46 := ⟨Tryz.f288.name, by decide, Tryz.func288.trans (congrArg some (by kernel_rfl))⟩
 f47 := Tryz.func215.trans (congrArg some (by kernel_rfl))
 f48 := Tryz.func216.trans (congrArg some (by kernel_rfl))
 f49 := ⟨Tryz.f289.name, by decide, Tryz.func289.trans (congrArg some (by kernel_rfl))⟩
 f50 := ⟨Tryz.f290.name, by decide, Tryz.func290.trans (congrArg some (by kernel_rfl))⟩
 f57 := ⟨Tryz.f328.name, by decide, Tryz.func328.trans (congrArg some (by kernel_rfl))⟩
 t0 := Tryz.underlying0
 a0 := Tryz.isAgg0
 z0 := Tryz.sizeOf0
 v0 := Tryz.zeroValue0
 t3 := Tryz.underlying3
 a3 := Tryz.isAgg3
 z3 := Tryz.sizeOf3
 v3 := Tryz.zeroValue3
 t4 := Tryz.underlying4
 a4 := Tryz.isAgg4
 z4 := Tryz.sizeOf4
 v4 := Tryz.zeroValue4
 t5 := Tryz.underlying5
 a5 := Tryz.isAgg5
 z5 := Tryz.sizeOf5
 v5 := Tryz.zeroValue5
 t9 := Tryz.underlying9
 a9 := Tryz.isAgg9
 z9 := Tryz.sizeOf9
 v9 := Tryz.zeroValue9
 t22 := Tryz.underlying36
 a22 := Tryz.isAgg36
 z22 := Tryz.sizeOf36
 v22 := Tryz.zeroValue36
 t25 := Tryz.underlying82
 a25 := Tryz.isAgg82
 z25 := Tryz.sizeOf82
 v25 := Tryz.zeroValue82
 t39 := Tryz.underlying131
 a39 := Tryz.isAgg131
 z39 := Tryz.sizeOf131
 v39 := Tryz.zeroValue131
 t45 := Tryz.underlying183
 a45 := Tryz.isAgg183
 z45 := Tryz.sizeOf183
 v45 := Tryz.zeroValue183
 t46 := Tryz.underlying184
 a46 := Tryz.isAgg184
 z46 := Tryz.sizeOf184
 v46 := Tryz.zeroValue184
 t50 := Tryz.underlying123
 a50 := Tryz.isAgg123
 z50 := Tryz.sizeOf123
 v50 := Tryz.zeroValue123
 t53 := Tryz.underlying190
 a53 := Tryz.isAgg190
 z53 := Tryz.sizeOf190
 v53 := Tryz.zeroValue190
 t55 := Tryz.underlying192
 a55 := Tryz.isAgg192
 z55 := Tryz.sizeOf192
 v55 := Tryz.zeroValue192
 t66 := Tryz.underlying274
 a66 := Tryz.isAgg274
 z66 := Tryz.sizeOf274
 v66 := Tryz.zeroValue274
 t70 := Tryz.underlying278
 a70 := Tryz.isAgg278
 z70 := Tryz.sizeOf278
 v70 := Tryz.zeroValue278
 t76 := Tryz.underlying329
 a76 := Tryz.isAgg329
 z76 := Tryz.sizeOf329
 v76 := Tryz.zeroValue329
 t77 := Tryz.underlying330
 a77 := Tryz.isAgg330
 z77 := Tryz.sizeOf330
 v77 := Tryz.zeroValue330 }
end Go.Proofs
namespace Go.Ev.Pv
open Go.Proofs
def ujt_ : FSpec := ⟨[.io 80 (.agg (.prod (.agg (.prod .str (.prod (.slice .str) (.prod .str (.prod (.int .i64) (.prod .bool (.prod .str (.slice (.agg (.prod .str (.prod (.int .i64) (.prod (.slice (.agg (.prod (.int .i64) .str))) (.prod (.slice .str) (.slice .str)))))))))))))) (.int .i64))), .hof true (.prod (.agg (.prod (.agg (.prod .str (.prod (.slice .str) (.prod .str (.prod (.int .i64) (.prod .bool (.prod .str (.slice (.agg (.prod .str (.prod (.int .i64) (.prod (.slice (.agg (.prod (.int .i64) .str))) (.prod (.slice .str) (.slice .str)))))))))))))) (.int .i64))) (.agg (.prod (.agg (.prod .str (.prod (.slice .str) (.prod .str (.prod (.int .i64) (.prod .bool (.prod .str (.slice (.agg (.prod .str (.prod (.int .i64) (.prod (.slice (.agg (.prod (.int .i64) .str))) (.prod (.slice .str) (.slice .str)))))))))))))) (.int .i64)))) (.int .i64)], [], umx_, true⟩
theorem uv6_ : uo_ Go.Proofs.Tryz.prog 35 ∧ FunOK Go.Proofs.Tryz.prog 35 ujt_ :=
 ⟨uwh_ Tryz.func35 (by kernel_rfl) (by kernel_rfl), ub7d_ Tryz.sort35 rfl Tryz.isAgg80 Tryz.sizeOf80 (by decide)⟩
def ui3_ : FSpec := ⟨[.io 94 (.agg (.prod (.agg (.prod (.int .i64) (.prod .str (.prod .bool .str)))) (.agg (.prod (.int .i64) (.prod .str (.prod .bool .str)))))), .hof true (.prod (.agg (.prod (.agg (.prod (.int .i64) (.prod .str (.prod .bool .str)))) (.agg (.prod (.int .i64) (.prod .str (.prod .bool .str)))))) (.agg (.prod (.agg (.prod (.int .i64) (.prod .str (.prod .bool .str)))) (.agg (.prod (.int .i64) (.prod .str (.prod .bool .str))))))) (.int .i64)], [], ugk_, true⟩
theorem uuy_ : uo_ Go.Proofs.Tryz.prog 46 ∧ FunOK Go.Proofs.Tryz.prog 46 ui3_ :=
 ⟨uwh_ Tryz.func46 (by kernel_rfl) (by kernel_rfl), ub7d_ Tryz.sort46 rfl Tryz.isAgg94 Tryz.sizeOf94 (by decide)⟩
def ulq_ : FSpec := ⟨[.io 50 (.agg (.prod .str (.prod (.slice .str) (.prod .str (.prod (.int .i64) (.prod .bool (.prod .str (.slice (.agg (.prod .str (.prod (.int .i64) (.prod (.slice (.agg (.prod (.int .i64) .str))) (.prod (.slice .str) (.slice .str)))))))))))))), .hof true (.prod (.agg (.prod .str (.prod (.slice .str) (.prod .str (.prod (.int .i64) (.prod .bool (.prod .str (.slice (.agg (.prod .str (.prod (.int .i64) (.prod (.slice (.agg (.prod (.int .i64) .str))) (.prod (.slice .str) (.slice .str)))))))))))))) (.agg (.prod .str (.prod (.slice .str) (.prod .str (.prod (.int .i64) (.prod .bool (.prod .str (.slice (.agg (.prod .str (.prod (.int .i64) (.prod (.slice (.agg (.prod (.int .i64) .str))) (.prod (.slice .str) (.slice .str))))))))))))))) (.int .i64)], [], uor_, true⟩
theorem uy0_ : uo_ Go.Proofs.Tryz.prog 63 ∧ FunOK Go.Proofs.Tryz.prog 63 ulq_ :=
 ⟨uwh_ Tryz.func63 (by kernel_rfl) (by kernel_rfl), ub7d_ Tryz.sort63 rfl Tryz.isAgg50 Tryz.sizeOf50 (by decide)⟩
end Go.Ev.Pv
