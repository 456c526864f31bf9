/-
  OPERATIONS ON VALUES: strings, slices, structs.
-/
import Derived.Test.YtncjpbogjfibfaaGreatDoorEvO
set_option linter.unusedVariables false
set_option linter.unusedSimpArgs false
namespace Go.Ev
section
variable {P : Program} {fr : Fr} {free : Nat → Prop} {self : Nat} {σ : Nat → Option Obj} {w : World} {G : Gh}

theorem slice_inv {I : Im} {e : Ty} {xs : List e.T} {v : Value} (h : VRel w I (.slice e) xs v) :
    ∃ a cap, v = .slice a xs.length cap ∧ LenOK xs.length cap ∧ (a = none → xs = [] ∧ cap = 0) ∧
      ∀ ad, a = some ad → ad.spot = none ∧ ∀ i x, xs[i]? = some x → ∃ c, Row w I ad.block (ad.off + i * e.sz) e.sz c ∧ Rel w I e x c := by
  obtain ⟨c, h1, a, cap, h2, h3, h4, h5⟩ := h
  have h1' : c = [v] := h1
  subst h1'
  injection h2 with h6 _
  exact ⟨a, cap, h6, h3, h4, h5⟩

theorem slice_mk {I : Im} {e : Ty} {xs : List e.T} {a : Option Addr} {cap : Nat} (h1 : LenOK xs.length cap) (h2 : a = none → xs = [] ∧ cap = 0)
    (h3 : ∀ ad, a = some ad → ad.spot = none ∧ ∀ i x, xs[i]? = some x → ∃ c, Row w I ad.block (ad.off + i * e.sz) e.sz c ∧ Rel w I e x c) :
    VRel w I (.slice e) xs (.slice a xs.length cap) := ⟨_, rfl, a, cap, rfl, h1, h2, h3⟩

theorem at?_some {α : Type} {l : List α} {i : Int} {x : α} (h : at? l i = some x) : 0 ≤ i ∧ i.toNat < l.length ∧ l[i.toNat]? = some x := by
  unfold at? at h
  by_cases h0 : 0 ≤ i
  · rw [show decide (0 ≤ i) = true by simpa using h0] at h
    exact ⟨h0, (List.getElem?_eq_some_iff.1 h).1, h⟩
  · rw [show decide (0 ≤ i) = false by simpa using h0] at h; cases h

theorem in?_some {n : Nat} {i : Int} {x : Unit} (h : in? n i = some x) : 0 ≤ i ∧ i.toNat < n := by
  unfold in? at h
  by_cases h0 : 0 ≤ i ∧ i < n
  · exact ⟨h0.1, by omega⟩
  · have : (decide (0 ≤ i) && decide (i < (n : Int))) = false := by
      rw [Bool.and_eq_false_iff]
      by_cases h1 : 0 ≤ i
      · exact .inr (by simp; omega)
      · exact .inl (by simpa using h1)
    rw [this] at h; cases h

theorem cut?_some {α : Type} {l r : List α} {lo hi : Int} (h : cut? l lo hi = some r) : 0 ≤ lo ∧ lo ≤ hi ∧ hi ≤ l.length ∧ r = (l.take hi.toNat).drop lo.toNat := by
  unfold cut? at h
  by_cases h0 : 0 ≤ lo ∧ lo ≤ hi ∧ hi ≤ l.length
  · have : (decide (0 ≤ lo) && (decide (lo ≤ hi) && decide (hi ≤ (l.length : Int)))) = true := by simp [h0]
    rw [this] at h
    exact ⟨h0.1, h0.2.1, h0.2.2, (Option.some.inj h).symm⟩
  · have : (decide (0 ≤ lo) && (decide (lo ≤ hi) && decide (hi ≤ (l.length : Int)))) = false := by
      rw [← Bool.not_eq_true]; simpa using h0
    rw [this] at h; cases h

theorem u8_in (b : UInt8) : inKind .u8 (b.toNat : Int) := by
  have := b.toNat_lt
  unfold inKind
  simp [IntKind.min, IntKind.max, IntKind.signed, IntKind.bits]; omega

/-! ## An index into a string, an array -/
theorem part_ok {I : Im} {e : Ty} {id : Nat} (hl : Lay P e id) {x : e.T} {cs : Array Value} {off : Nat} (h : Rel w I e x ((cs.toList.drop off).take e.sz)) (hs : off + e.sz ≤ cs.size) :
    ∃ v, (part id cs off).run P w = .ok v w ∧ VRel w I e x v := by
  obtain ⟨d, hd, ha⟩ := hl.isAgg
  obtain ⟨i, z, hi, hsz, _, _, _⟩ := inf_ok hl.inf
  unfold part isAgg
  simp only [Sem.run_bind, run_underlying hd, Result.andThen_ok]
  by_cases hag : e.isAgg = true
  · rw [hag] at ha
    refine ⟨.agg (cs.extract off (off + e.sz)), ?_, ((cs.toList.drop off).take e.sz), ?_, h⟩
    · have hc : P.cellsOf id = e.sz := by simp [Program.cellsOf, hi, hsz]
      cases d <;> simp at ha <;> simp [run_sizeOf w hi, hc]
    · have : (cs.extract off (off + e.sz)) = ((cs.toList.drop off).take e.sz).toArray := by
        apply Array.ext'
        simp [Array.toList_extract, List.extract_eq_take_drop]
      rw [this]
      cases e <;> simp [Ty.isAgg] at hag <;> rfl
  · have hag' : e.isAgg = false := by simpa using hag
    rw [hag'] at ha
    have hlen := h.length
    have h1 : e.sz = 1 := by
      cases e <;> first | rfl | (exfalso; simp [Ty.isAgg] at hag'; done) | (exfalso; simp [Lay, layB] at hl; done)
    rw [h1] at h hs
    have hlt : off < cs.size := by omega
    have hv : cs[off]? = some cs[off] := by simp [hlt]
    refine ⟨cs[off], ?_, [cs[off]], ?_, ?_⟩
    · cases d <;> simp at ha <;> simp [hv]
    · cases e <;> first | rfl | (exfalso; simp [Ty.isAgg] at hag'; done) | (exfalso; simp [Lay, layB] at hl; done)
    · have : (cs.toList.drop off).take 1 = [cs[off]] := by
        rw [List.drop_eq_getElem_cons (by simpa using hlt)]; simp
      rw [this] at h; exact h

theorem idxS_ok {id : Nat} (hl : P.underlying id = some .string) {i : Int} {k : IntKind} {s : Str} {u : Upd} (hu : Gives (idxS s i) u) :
    u.wr = [] ∧ ∃ z, (Instr.index id (.string ⟨s.toArray⟩) (.int k i)).run P w = .ok z w ∧ SR P w G u.sv z := by
  obtain ⟨b, hb, rfl⟩ := hu.may_inv
  obtain ⟨h1, h2, h3⟩ := at?_some hb
  have h4 : i.toNat < (⟨s.toArray⟩ : ByteArray).size := by rw [str_size]; exact h2
  refine ⟨rfl, .int .u8 (b.toNat : Int), ?_, SR.mk_int (u8_in b)⟩
  rw [run_index_string w id _ k i hl, dif_pos ⟨h1, by omega⟩]
  have : (⟨s.toArray⟩ : ByteArray)[i.toNat]'h4 = b := by
    have := (List.getElem?_eq_some_iff.1 h3).2
    rw [← this]
    rfl
  rw [this]

theorem idxA_ok {n : Nat} {e : Ty} {id : Nat} (hl : Lay P (.arr n e) id) {i : Int} {k : IntKind} {xs : List e.T} {v : Value} {u : Upd} (hu : Gives (idxA e xs i) u) (h : SR P w G (.val (.arr n e) xs) v) :
    u.wr = [] ∧ ∃ z, (Instr.index id v (.int k i)).run P w = .ok z w ∧ SR P w G u.sv z := by
  obtain ⟨y, hy, rfl⟩ := hu.may_inv
  obtain ⟨h1, h2, h3⟩ := at?_some hy
  obtain ⟨cs, hc, hrel⟩ := h.val
  have hc' : v = .agg cs.toArray := hc
  subst hc'
  obtain ⟨k1, k2, k3⟩ := hrel
  obtain ⟨el, hun, hle, _, _⟩ := hl.arr
  obtain ⟨inf, z, hinf, hsz, _, _, _⟩ := inf_ok hle.inf
  have hin : i.toNat < n := by rw [← k1]; exact h2
  have hmul : (i.toNat + 1) * e.sz ≤ n * e.sz := Nat.mul_le_mul_right _ hin
  rw [Nat.succ_mul] at hmul
  obtain ⟨z, hz, hv⟩ := part_ok (P := P) hle (cs := cs.toArray) (off := i.toNat * e.sz) (by simpa using k3 _ _ h3) (by simp [k2]; omega)
  refine ⟨rfl, z, ?_, hv⟩
  unfold Instr.index
  have hc2 : P.cellsOf el = e.sz := by simp [Program.cellsOf, hinf, hsz]
  simp only [Sem.run_bind, asIntOf, Sem.run_pure, Result.andThen_ok, run_underlying hun]
  rw [if_pos ⟨h1, by omega⟩]
  simp only [Sem.run_bind, run_sizeOf w hinf, Result.andThen_ok, hc2]
  exact hz

theorem opIndex_ok {t : Ty} {id : Nat} (hl : Lay P t id) {i : Int} {k : IntKind} {s : SV} {v : Value} {r : OpRes} {u : Upd} (hr : opIndex t i s = some r) (hu : Gives r u) (h : SR P w G s v) :
    u.wr = [] ∧ ∃ z, (Instr.index id v (.int k i)).run P w = .ok z w ∧ SR P w G u.sv z := by
  unfold opIndex at hr
  split at hr
  · split at hr
    · cases hr
      obtain ⟨rfl, _⟩ := h.str
      exact idxS_ok hl.str hu
    · cases hr
  · split at hr
    · split at hr
      · rename_i xs hxs
        cases hr
        exact idxA_ok hl hu (SR.cast hxs h)
      · cases hr
    · cases hr
  · cases hr

theorem obj_inv {k g : Nat} {v : Value} (h : SR P w G (.obj k g) v) : G.val k g = some v := by
  obtain ⟨c, h1, v', h2, _, h3⟩ := h
  have h1' : c = [v] := h1
  rw [h1'] at h3
  injection h3 with h4 _
  rw [h4]; exact h2

theorem obj_one {k g : Nat} {v : Value} (h : SR P w G (.obj k g) v) : v.oneCell' = true := by
  obtain ⟨c, h1, v', _, h2, h3⟩ := h
  have h1' : c = [v] := h1
  rw [h1'] at h3
  injection h3 with h4 _
  rw [h4]; exact h2

theorem obj_mk {k g : Nat} {v : Value} (h : G.val k g = some v) (h1 : v.oneCell' = true) : SR P w G (.obj k g) v := ⟨_, rfl, v, h, h1, rfl⟩

theorem SlOK.shape {fr : Fr} {el : Nat} {I : Im} {t : Ty} {xs : List t.T} {wr : Bool} {v : Value} (h : SlOK fr w I el t xs wr v) : ∃ a cap, v = .slice a xs.length cap ∧ xs.length ≤ 281474976710656 := by
  rcases h with ⟨rfl, rfl⟩ | ⟨b, cap, cs, rfl, h, _⟩
  · exact ⟨none, 0, rfl, Nat.zero_le _⟩
  · exact ⟨_, _, rfl, h.2⟩

/-! ## Length -/
theorem opLen_ok {t : Ty} {id : Nat} (hl : Lay P t id) (ho : ∀ k o, σ k = some o → ObjOK P fr w G k o) {s : SV} {v : Value} {r : OpRes} {u : Upd}
    (hr : opLen σ t s = some r) (hu : Gives r u) (h : SR P w G s v) (ts : Array TypeId) (hts : ts[0]? = some id) (ty : TypeId) :
    u.wr = [] ∧ ∃ z, (Builtin.len_ ts ty #[v]).run P w = .ok z w ∧ SR P w G u.sv z := by
  have inn : ∀ {n : Nat}, n ≤ 281474976710656 → inKind .i64 (n : Int) := by
    intro n h
    constructor <;> simp [IntKind.min, IntKind.max, IntKind.signed, IntKind.bits] <;> omega
  have nm : ∀ {n : Nat}, r = lenN n → n ≤ 281474976710656 → (Builtin.len_ ts ty #[v]).run P w = .ok (.int .i64 (n : Int)) w → u.wr = [] ∧ ∃ z, (Builtin.len_ ts ty #[v]).run P w = .ok z w ∧ SR P w G u.sv z := by
    intro n h1 h3 h2
    subst h1
    rw [hu.v_inv]
    exact ⟨rfl, _, h2, SR.mk_int (inn h3)⟩
  have nk : ∀ {n : Nat}, r = lenK n → (Builtin.len_ ts ty #[v]).run P w = .ok (.int .i64 (n : Int)) w → u.wr = [] ∧ ∃ z, (Builtin.len_ ts ty #[v]).run P w = .ok z w ∧ SR P w G u.sv z := by
    intro n h1 h2
    subst h1
    obtain ⟨y, hy, rfl⟩ := hu.may_inv
    unfold len? at hy
    cases hb : Nat.ble n 281474976710656 with
    | false => rw [hb] at hy; cases hy
    | true =>
      rw [hb] at hy
      cases hy
      exact ⟨rfl, _, h2, SR.mk_int (inn (Nat.le_of_ble_eq_true hb))⟩
  unfold opLen at hr
  split at hr
  · split at hr
    · rename_i s
      cases hr
      obtain ⟨rfl, hsl⟩ := h.str
      refine nm rfl hsl ?_
      simp [Builtin.len_, hts, run_underlying hl.str, goInt]
      exact congrArg Nat.cast (str_size _)
    · cases hr
  · rename_i n e
    cases hb : Nat.ble n 281474976710656 with
    | false => rw [hb] at hr; cases hr
    | true =>
    rw [hb] at hr
    cases hr
    obtain ⟨el, hun, _, _, _⟩ := hl.arr
    refine nm rfl (Nat.le_of_ble_eq_true hb) ?_
    simp [Builtin.len_, hts, run_underlying hun, goInt]
  · rename_i e
    obtain ⟨el, hun, hle, _⟩ := hl.slice
    have fin : ∀ {a : Option Addr} {n cap : Nat}, v = .slice a n cap → (Builtin.len_ ts ty #[v]).run P w = .ok (.int .i64 (n : Int)) w := by
      intro a n cap hv
      subst hv
      simp [Builtin.len_, hts, run_underlying hun, goInt]
    split at hr
    · rename_i k g
      split at hr
      · rename_i e' xs g' wr hk
        cases hg : Nat.beq g g' with
        | false => rw [hg] at hr; cases hr
        | true =>
          rw [hg] at hr
          cases hr
          have := Nat.eq_of_beq_eq_true hg
          subst this
          obtain ⟨_, v', h1, h2⟩ := ho _ _ hk
          rw [obj_inv h] at h1
          cases h1
          obtain ⟨a, cap, hv, hbd⟩ := h2.shape
          exact nm rfl hbd (fin hv)
      · cases hr
    · split at hr
      · rename_i xs hxs
        cases hr
        obtain ⟨a, cap, hv, hbd, _⟩ := slice_inv (as_ok hxs h)
        exact nm rfl hbd.2 (fin hv)
      · cases hr
  · rename_i ka kb
    obtain ⟨ia, ib, hun, _, _⟩ := hl.map
    split at hr
    · rename_i k g
      split at hr
      · rename_i ka' kb' es hk
        cases hg : Nat.beq g 0 with
        | false => rw [hg] at hr; cases hr
        | true =>
          rw [hg] at hr
          cases hr
          have := Nat.eq_of_beq_eq_true hg
          subst this
          obtain ⟨v', h1, b, ents, clock, h2, h3, h4, _⟩ := ho _ _ hk
          rw [obj_inv h] at h1
          cases h1
          subst h2
          refine nk rfl ?_
          have hgo : (getObj b).run P w = .ok (.map ents clock) w := by simp [getObj, Sem.run, h3]
          simp [Builtin.len_, hts, run_underlying hun, hgo, goInt, h4]
      · cases hr
    · rename_i q x
      split at hr
      · rename_i es hes
        cases hr
        obtain ⟨c, h1, hrel⟩ := (SR.cast hes h).val
        obtain ⟨rr, h2, h3, h4⟩ := hrel
        have h1' : c = [v] := h1
        rw [h1'] at h2
        injection h2 with h5 _
        subst h5
        refine nk rfl ?_
        cases rr with
        | none =>
          have h3' := h3 rfl
          have hn : List.length (show List (ka.T × kb.T) from es) = 0 := by rw [h3']; rfl
          simp [Builtin.len_, hts, run_underlying hun, goInt]
          exact hn.symm ▸ rfl
        | some b =>
          obtain ⟨_, ents, clock, h6, h7, _⟩ := h4 b rfl
          have hgo : (getObj b).run P w = .ok (.map ents clock) w := by simp [getObj, Sem.run, h6]
          simp [Builtin.len_, hts, run_underlying hun, hgo, goInt]
          exact congrArg Nat.cast h7
      · cases hr
    · cases hr
  · cases hr

/-! ## A part of a string, of a slice -/
/-- An operand that may be left out. -/
def OptSR (P : Program) (w : World) (G : Gh) : Option SV → Option Value → Prop
  | some s, some x => SR P w G s x
  | none, none => True
  | _, _ => False

theorem bound_ok {b : Option SV} {v : Option Value} {d n : Int} (hb : bound b d = some n) (h : OptSR P w G b v) :
    (v = none ∧ n = d) ∨ ∃ k, v = some (.int k n) := by
  unfold bound at hb
  split at hb
  · rename_i k m
    cases v with
    | none => exact absurd h id
    | some x =>
      obtain ⟨rfl, _⟩ := SR.int h
      cases hb
      exact .inr ⟨_, rfl⟩
  · cases v with
    | none => cases hb; exact .inl ⟨rfl, rfl⟩
    | some x => exact absurd h id
  · cases hb

theorem sliceBounds_ok {isS : Bool} {len cap : Nat} {lo hi : Option Value} {l h : Int} (h1 : (lo = none ∧ l = 0) ∨ ∃ k, lo = some (.int k l)) (h2 : (hi = none ∧ h = len) ∨ ∃ k, hi = some (.int k h))
    (hl : 0 ≤ l) (hlh : l ≤ h) (hh : h ≤ cap) : (Instr.sliceBounds isS len cap lo hi none).run P w = .ok (l.toNat, h.toNat, cap) w := by
  have e2 : h.toNat ≤ cap := by omega
  rcases h1 with ⟨rfl, rfl⟩ | ⟨k, rfl⟩ <;> rcases h2 with ⟨rfl, rfl⟩ | ⟨k', rfl⟩
  · simp [Instr.sliceBounds]
  · simp [Instr.sliceBounds, Instr.sliceBound, asIntOf, show 0 ≤ h by omega, hh]
  · simp [Instr.sliceBounds, Instr.sliceBound, asIntOf, hl, hlh]
  · simp [Instr.sliceBounds, Instr.sliceBound, asIntOf, hl, show 0 ≤ h by omega, hh]
    omega

theorem sliceS_ok {id : Nat} (hl : P.underlying id = some .string) {s : Str} {lo hi : Option SV} {vlo vhi : Option Value} {r : OpRes} {u : Upd} (hs : s.length ≤ 281474976710656)
    (hr : sliceS s lo hi = some r) (hu : Gives r u) (hlo : OptSR P w G lo vlo) (hhi : OptSR P w G hi vhi) :
    u.wr = [] ∧ ∃ z, (Instr.sliceAt id (.string ⟨s.toArray⟩) vlo vhi none).run P w = .ok z w ∧ SR P w G u.sv z := by
  unfold sliceS at hr
  split at hr
  · rename_i l h' hbl hbh
    cases hr
    obtain ⟨y, hy, rfl⟩ := hu.may_inv
    obtain ⟨h1, h2, h3, h4⟩ := cut?_some hy
    have hsb := sliceBounds_ok (P := P) (w := w) (isS := false) (len := s.length) (cap := s.length) (bound_ok hbl hlo) (bound_ok hbh hhi) h1 h2 (by omega)
    refine ⟨rfl, .string ((⟨s.toArray⟩ : ByteArray).extract l.toNat h'.toNat), ?_, ?_⟩
    · simp only [Instr.sliceAt, Sem.run_bind, run_underlying hl, Result.andThen_ok, Instr.slice, Option.isSome_none, Bool.false_eq_true, if_false]
      rw [str_size, hsb]
      rfl
    · have : (⟨s.toArray⟩ : ByteArray).extract l.toNat h'.toNat = ⟨y.toArray⟩ := by
        apply ByteArray.ext
        rw [ByteArray.data_extract]
        apply Array.ext'
        rw [h4]
        simp only [List.extract_toArray, List.extract_eq_take_drop]
        rw [List.drop_take]
      rw [this]
      refine SR.mk_str ?_
      rw [h4]
      simp only [List.length_drop, List.length_take]
      omega
  · cases hr

theorem sliceL_ok {e : Ty} {id : Nat} (hl : Lay P (.slice e) id) {xs : List e.T} {v : Value} {lo hi : Option SV} {vlo vhi : Option Value} {r : OpRes} {u : Upd}
    (hr : sliceL e xs lo hi = some r) (hu : Gives r u) (h : VRel w G.im (.slice e) xs v) (hlo : OptSR P w G lo vlo) (hhi : OptSR P w G hi vhi) :
    u.wr = [] ∧ ∃ z, (Instr.sliceAt id v vlo vhi none).run P w = .ok z w ∧ SR P w G u.sv z := by
  obtain ⟨el, hun, hle, _⟩ := hl.slice
  obtain ⟨inf, z0, hinf, hisz, _, _, _⟩ := inf_ok hle.inf
  have hc2 : P.cellsOf el = e.sz := by simp [Program.cellsOf, hinf, hisz]
  unfold sliceL at hr
  split at hr
  · rename_i l h' hbl hbh
    cases hr
    obtain ⟨y, hy, rfl⟩ := hu.may_inv
    obtain ⟨h1, h2, h3, h4⟩ := cut?_some hy
    obtain ⟨a, cap, rfl, ⟨k1, k1'⟩, k2, k3⟩ := slice_inv h
    have hsb := sliceBounds_ok (P := P) (w := w) (isS := true) (len := xs.length) (cap := cap) (bound_ok hbl hlo) (bound_ok hbh hhi) h1 h2 (by omega)
    have hylen : y.length = h'.toNat - l.toNat := by rw [h4]; simp only [List.length_drop, List.length_take]; omega
    refine ⟨rfl, .slice (if cap = l.toNat then a else a.map (·.add (l.toNat * e.sz))) (h'.toNat - l.toNat) (cap - l.toNat), ?_, ?_⟩
    · simp only [Instr.sliceAt, Sem.run_bind, run_underlying hun, Result.andThen_ok, Instr.slice, hsb, run_sizeOf w hinf, hc2]
      rfl
    · rw [← hylen]
      refine slice_mk ⟨by rw [hylen]; omega, by rw [hylen]; omega⟩ ?_ ?_
      · intro hn
        have : a = none := by
          split at hn
          · exact hn
          · cases a <;> first | rfl | (simp at hn)
        obtain ⟨hx, hc0⟩ := k2 this
        exact ⟨by rw [h4, hx]; simp, by rw [hc0]; simp⟩
      · intro ad had
        by_cases hcap : cap = l.toNat
        · rw [if_pos hcap] at had
          refine ⟨(k3 ad had).1, fun i x hx => ?_⟩
          have : y.length = 0 := by omega
          rw [List.length_eq_zero_iff.1 this] at hx
          simp at hx
        · rw [if_neg hcap] at had
          cases a with
          | none => simp at had
          | some a0 =>
            simp only [Option.map_some, Option.some.injEq] at had
            obtain ⟨q1, q2⟩ := k3 a0 rfl
            have hadd : ad = ⟨a0.block, a0.off + l.toNat * e.sz, none⟩ := by
              rw [← had]
              unfold Addr.add
              split
              · rename_i hz
                cases a0
                simp only at q1 hz ⊢
                rw [hz, q1]; simp
              · rfl
            subst hadd
            refine ⟨rfl, fun i x hx => ?_⟩
            have hx' : xs[l.toNat + i]? = some x := by
              rw [h4, List.getElem?_drop, List.getElem?_take] at hx
              split at hx
              · exact hx
              · cases hx
            obtain ⟨c, hc, hrel⟩ := q2 _ _ hx'
            refine ⟨c, ?_, hrel⟩
            have : a0.off + l.toNat * e.sz + i * e.sz = a0.off + (l.toNat + i) * e.sz := by rw [Nat.add_mul, Nat.add_assoc]
            show Row w G.im a0.block (a0.off + l.toNat * e.sz + i * e.sz) e.sz c
            rw [this]; exact hc
  · cases hr

theorem opSlice_ok {t : Ty} {id : Nat} (hl : Lay P t id) (ho : ∀ k o, σ k = some o → ObjOK P fr w G k o) {s : SV} {v : Value} {lo hi : Option SV} {vlo vhi : Option Value} {r : OpRes} {u : Upd}
    (hr : opSlice σ t s lo hi = some r) (hu : Gives r u) (h : SR P w G s v) (hlo : OptSR P w G lo vlo) (hhi : OptSR P w G hi vhi) :
    u.wr = [] ∧ ∃ z, (Instr.sliceAt id v vlo vhi none).run P w = .ok z w ∧ SR P w G u.sv z := by
  unfold opSlice at hr
  split at hr
  · split at hr
    · obtain ⟨rfl, hsz⟩ := h.str
      exact sliceS_ok hl.str hsz hr hu hlo hhi
    · cases hr
  · split at hr
    · rename_i xs hxs
      exact sliceL_ok hl hr hu (asV_ok ho hxs h) hlo hhi
    · cases hr
  · cases hr
end
end Go.Ev
