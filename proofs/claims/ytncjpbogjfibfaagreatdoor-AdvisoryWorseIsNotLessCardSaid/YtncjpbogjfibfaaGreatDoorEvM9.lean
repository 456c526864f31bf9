/-
  Conversions; maps.
-/
import Derived.Test.YtncjpbogjfibfaaGreatDoorEvM8
import Derived.MapKept
import Derived.Lib.ConvBytes
set_option linter.unusedVariables false
set_option linter.unusedSimpArgs false
namespace Go.Ev

section
variable {P : Program} {fr : Fr} {free free' : Nat → Prop} {self : Nat} {σ σ' : Nat → Option Obj} {w w' : World} {G G' : Gh} {I : Im}

/-- A new block that no more turns, and is no object. -/
theorem MemS.new_im (hm : MemS P fr free σ w G) {ob : Go.Obj} {n : Nat} (hw : ∀ b, b < w.heap.size → w'.heap[b]? = w.heap[b]?) (hsz : w'.heap.size = w.heap.size + 1) (hnew : w'.heap[w.heap.size]? = some ob)
    (hos : w'.os = w.os) (htape : w'.tape = w.tape) (hout : w'.output = w.output) :
    GLe w G w' (G.addIm w.heap.size 0 n) ∧ MemS P fr free σ w' (G.addIm w.heap.size 0 n) := by
  have hle : GLe w G w' (G.addIm w.heap.size 0 n) := by
    refine ⟨⟨fun b o h => ⟨.inl h, ?_⟩, fun b h => ⟨h, hw b (hm.after.inO b h)⟩⟩, fun k g v h => h, fun k t h => h, fun k b h => h⟩
    simp only [World.cell?, hw b (hm.after.inC b o h)]
  have hold : ∀ j o, σ j = some o → ObjOK P fr w' (G.addIm w.heap.size 0 n) j o := by
    intro j o ho
    refine (hm.objs j o ho).keep hle fun b hb => ?_
    have hlt := blk_lt (hm.objs j o ho) hb
    exact ⟨hw b hlt, fun off h => h.resolve_right (fun h => Nat.ne_of_lt hlt h.1), fun h => h⟩
  refine ⟨hle, hold, fun i j o o' b hi hj hbi hbj => ?_, ?_, fun j hj => hm.fresh j hj⟩
  · exact hm.sep i j o o' b hi hj (by rw [← blk_mono (hm.objs i o hi) hle]; exact hbi) (by rw [← blk_mono (hm.objs j o' hj) hle]; exact hbj)
  · refine hm.after.trans (gv' := noGv) ⟨hle.ext, fun b hb _ => hw b hb, by omega, fun b o h => h.imp id (fun h => .inl (Nat.le_of_eq h.1.symm)), fun b h => .inl h, ?_, ?_, hos, htape, hout⟩ (fun b h => absurd h id)
    · intro b o h
      rcases h with h | ⟨h, _⟩
      · exact Nat.lt_of_lt_of_le (hm.after.inC b o h) (by omega)
      · omega
    · intro b h
      exact Nat.lt_of_lt_of_le (hm.after.inO b h) (by omega)

theorem bytes_conv_ok {id src : Nat} (hl : Lay P (.slice (.int .u8)) id) (hsrc : ∃ d, P.underlying src = some d) (hm : MemS P fr free σ w G) {s : Str} {v : Value} (hs : SR P w G (.val .str s) v) :
    ∃ z w', (convert src id v).run P w = .ok z w' ∧ Res P fr free self σ w G ⟨.val (.slice (.int .u8)) (bytesOf s), []⟩ z w' := by
  obtain ⟨rfl, hlen⟩ := hs.str
  obtain ⟨el, hu, hle, _⟩ := hl.slice
  obtain ⟨d, hd⟩ := hsrc
  have hrun := Lib.run_convert_string_bytes w src id el ⟨s.toArray⟩ hd hu hle.int
  have hss : (⟨s.toArray⟩ : ByteArray).size = s.length := str_size s
  obtain ⟨g1, g2⟩ := hm.new_im (w' := Lib.bytesWorld w el ⟨s.toArray⟩) (n := s.length) (fun b hb => Lib.bytesWorld_at_old w el _ b hb) (Lib.bytesWorld_size w el _) (Lib.bytesWorld_at_new w el _)
    rfl rfl rfl
  refine ⟨_, _, hrun, _, g1, g2.shrink fun _ h => h.1, ?_⟩
  have hbl : (bytesOf s).length = s.length := by simp [bytesOf]
  refine ⟨_, rfl, some ⟨w.heap.size, 0, none⟩, grownCap w s.length 0 el, ?_, ?_, by simp, ?_⟩
  · rw [hss]; show _ = [Value.slice _ (bytesOf s).length _]; rw [hbl]
  · show LenOK (bytesOf s).length _; rw [hbl]; exact ⟨grownCap_ge _ _ _ _, hlen⟩
  · intro ad had
    cases had
    refine ⟨rfl, fun i x hx => ?_⟩
    have hx : (bytesOf s)[i]? = some x := hx
    have hi : i < s.length := by rw [← hbl]; exact lt_of_getElem? hx
    have hxe : x = ((s[i]).toNat : Int) := by
      simp only [bytesOf, List.getElem?_map, List.getElem?_eq_getElem hi, Option.map_some] at hx
      exact (Option.some.inj hx).symm
    refine ⟨[.int .u8 x], ⟨rfl, fun j hj => ?_⟩, rfl, ?_⟩
    · have hj0 : j = 0 := by simp [Ty.sz] at hj; exact hj
      subst hj0
      have hsz1 : 0 + i * (Ty.int .u8).sz + 0 = i := by simp [Ty.sz]
      rw [hsz1]
      refine ⟨.inr ⟨rfl, by omega, hi⟩, ?_⟩
      rw [Lib.bytesWorld_cell w el _ i (by rw [hss]; exact hi), hxe]
      simp [List.getD, hi]
    · rw [hxe]
      have := (s[i]).toNat_lt
      constructor <;> simp [IntKind.min, IntKind.max, IntKind.signed, IntKind.bits] <;> omega

theorem ints_of_rows {k : IntKind} : ∀ {xs : List Int} {news : List Value}, RowsOK w I (.int k) xs news → news.length = xs.length → news = xs.map (Value.int k) := by
  intro xs news h hl
  apply List.ext_getElem?
  intro i
  by_cases hi : i < xs.length
  · have := (h i xs[i] (List.getElem?_eq_getElem hi)).1
    have e : i * (Ty.int k).sz = i := by simp [Ty.sz]
    rw [e] at this
    have h2 := congrArg (·[0]?) this
    simp only [List.getElem?_take, List.getElem?_drop, Ty.sz] at h2
    simp at h2
    rw [h2]; simp [hi]
  · rw [List.getElem?_eq_none (by omega), List.getElem?_eq_none (by simp; omega)]

theorem foldl_push (l : List Int) : ∀ (r : ByteArray), l.foldl (fun r n => r.push (UInt8.ofNat n.toNat)) r = ⟨r.data ++ (strOf l).toArray⟩ := by
  induction l with
  | nil => intro r; simp [strOf]
  | cons b l ih =>
    intro r
    simp only [List.foldl_cons]
    rw [ih]
    simp [ByteArray.push, strOf]

theorem string_conv_ok {id src : Nat} (hl : Lay P .str id) (hsrc : Lay P (.slice (.int .u8)) src) {xs : List Int} {s : Str} {v : Value} (hv : VRel w I (.slice (.int .u8)) xs v) (hs : cat? [] (strOf xs) = some s) :
    ∃ z, (convert src id v).run P w = .ok z w ∧ SR P w G (.val .str s) z := by
  obtain ⟨el, hu, hle, _⟩ := hsrc.slice
  unfold cat? at hs
  cases hb : decide ((([] : Str).length + (strOf xs).length) ≤ 281474976710656) with
  | false => rw [hb] at hs; cases hs
  | true =>
    rw [hb] at hs
    have hs : strOf xs = s := Option.some.inj hs
    subst hs
    have hlen := of_decide_eq_true hb
    obtain ⟨a, cap, news, hve, hnil, h1, h2, h3, h4⟩ := slice_src hv
    have hve : v = .slice a (List.length (α := Int) xs) cap := hve
    have h1 : news.length = List.length (α := Int) xs * 1 := h1
    subst hve
    have hnews : news = xs.map (Value.int .u8) := ints_of_rows h2 (by rw [h1, Nat.mul_one])
    cases a with
    | none =>
      have hx : xs = [] := hnil rfl
      subst hx
      refine ⟨.string .empty, ?_, SR.mk_str (s := []) (by simp)⟩
      rw [run_convert_bytes_string w src id el _ _ _ hu hle.int hl.str]
      simp [Conv.bytesToString]
    | some ad =>
      obtain ⟨hsp, hc⟩ := h4 ad rfl
      refine ⟨_, ?_, SR.mk_str (s := strOf xs) (by simpa using hlen)⟩
      rw [run_convert_bytes_string w src id el _ _ _ hu hle.int hl.str, run_bytesToString w ad xs.length cap xs ?_, foldl_push]
      · simp
      · have : (loadCells ad news.length).run P w = .ok news.toArray w := run_loadCells_list w ad news fun j u hj => by
          have e : ad.add j = ⟨ad.block, ad.off + j, none⟩ := by
            cases ad
            cases hsp
            exact addr_add
          rw [e]; exact hc j u hj
        rw [hnews] at this
        simpa using this

end
end Go.Ev
