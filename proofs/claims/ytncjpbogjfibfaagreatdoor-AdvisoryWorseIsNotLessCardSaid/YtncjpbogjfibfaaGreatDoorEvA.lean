/-
  THE EVALUATOR: TYPES, VALUES, STATES. A deterministic reading of the model's code on plain data, without addresses,
  without a tape. What it computes is tied to the model in the later files.
-/
import GoSem.Core.World
import GoSem.Core.View
set_option linter.unusedVariables false
set_option linter.unusedSimpArgs false
namespace Go.Ev

/-! ## Types and their data -/
inductive Ty where
  | unit
  | bool
  | int (k : IntKind)
  | str
  | slice (e : Ty)
  | agg (t : Ty)
  | prod (a b : Ty)
  | arr (n : Nat) (e : Ty)
  | ptr (e : Ty)
  | map (k v : Ty)
  | inil
  | ialt (id : Nat) (t r : Ty)
  deriving Inhabited

abbrev Str := List UInt8

def Ty.T : Ty → Type
  | .unit => Unit
  | .bool => Bool
  | .int _ => Int
  | .str => List UInt8
  | .slice e => List e.T
  | .agg t => t.T
  | .prod a b => a.T × b.T
  | .arr _ e => List e.T
  | .ptr e => Option e.T
  | .map k v => List (k.T × v.T)
  | .inil => Unit
  | .ialt _ t r => Sum t.T r.T

/-- The zero value. -/
def Ty.dflt : (t : Ty) → t.T
  | .unit => ()
  | .bool => false
  | .int _ => (0 : Int)
  | .str => ([] : List UInt8)
  | .slice e => ([] : List e.T)
  | .agg t => t.dflt
  | .prod a b => (a.dflt, b.dflt)
  | .arr n e => List.replicate n e.dflt
  | .ptr e => (none : Option e.T)
  | .map k v => ([] : List (k.T × v.T))
  | .inil => ()
  | .ialt _ _ r => Sum.inr r.dflt

def sameKind : IntKind → IntKind → Bool
  | .i8, .i8 => true | .i16, .i16 => true | .i32, .i32 => true | .i64, .i64 => true
  | .u8, .u8 => true | .u16, .u16 => true | .u32, .u32 => true | .u64, .u64 => true
  | _, _ => false

theorem sameKind_eq {a b : IntKind} (h : sameKind a b = true) : a = b := by
  cases a <;> cases b <;> first | rfl | cases h

theorem sameKind_refl (a : IntKind) : sameKind a a = true := by cases a <;> rfl

def Ty.same : Ty → Ty → Bool
  | .unit, .unit => true
  | .bool, .bool => true
  | .int k, .int l => sameKind k l
  | .str, .str => true
  | .slice a, .slice b => a.same b
  | .agg a, .agg b => a.same b
  | .prod a b, .prod c d => a.same c && b.same d
  | .arr n a, .arr m b => Nat.beq n m && a.same b
  | .ptr a, .ptr b => a.same b
  | .map a b, .map c d => a.same c && b.same d
  | .inil, .inil => true
  | .ialt i a b, .ialt j c d => Nat.beq i j && (a.same c && b.same d)
  | _, _ => false

theorem Ty.same_eq : ∀ {a b : Ty}, a.same b = true → a = b := by
  intro a
  induction a with
  | unit => intro b h; cases b <;> first | rfl | (simp [Ty.same] at h)
  | bool => intro b h; cases b <;> first | rfl | (simp [Ty.same] at h)
  | int k => intro b h; cases b <;> first | (simp only [Ty.same] at h; rw [sameKind_eq h]) | (simp [Ty.same] at h)
  | str => intro b h; cases b <;> first | rfl | (simp [Ty.same] at h)
  | slice e ih => intro b h; cases b <;> first | (simp only [Ty.same] at h; rw [ih h]) | (simp [Ty.same] at h)
  | agg e ih => intro b h; cases b <;> first | (simp only [Ty.same] at h; rw [ih h]) | (simp [Ty.same] at h)
  | prod x y ihx ihy =>
    intro b h
    cases b <;> first | (simp only [Ty.same, Bool.and_eq_true] at h; rw [ihx h.1, ihy h.2]) | (simp [Ty.same] at h)
  | arr n e ih =>
    intro b h
    cases b <;> first | (simp only [Ty.same, Bool.and_eq_true] at h; rw [Nat.eq_of_beq_eq_true h.1, ih h.2]) | (simp [Ty.same] at h)
  | ptr e ih => intro b h; cases b <;> first | (simp only [Ty.same] at h; rw [ih h]) | (simp [Ty.same] at h)
  | map x y ihx ihy =>
    intro b h
    cases b <;> first | (simp only [Ty.same, Bool.and_eq_true] at h; rw [ihx h.1, ihy h.2]) | (simp [Ty.same] at h)
  | inil => intro b h; cases b <;> first | rfl | (simp [Ty.same] at h)
  | ialt i x y ihx ihy =>
    intro b h
    cases b <;> first | (simp only [Ty.same, Bool.and_eq_true] at h; rw [Nat.eq_of_beq_eq_true h.1, ihx h.2.1, ihy h.2.2]) | (simp [Ty.same] at h)

/-- A datum of one type as one of another spelling of it. -/
def Ty.cast? (t u : Ty) (x : t.T) : Option u.T :=
  if h : t.same u = true then some (Ty.same_eq h ▸ x) else none

theorem Ty.cast?_some {t u : Ty} {x : t.T} {y : u.T} (h : Ty.cast? t u x = some y) : ∃ e : t = u, e ▸ x = y := by
  unfold Ty.cast? at h
  split at h
  · rename_i hs; exact ⟨Ty.same_eq hs, Option.some.inj h⟩
  · cases h

/-- How many cells a value takes. -/
def Ty.sz : Ty → Nat
  | .unit => 0
  | .agg t => t.sz
  | .prod a b => a.sz + b.sz
  | .arr n e => n * e.sz
  | _ => 1

/-! ## What a slot holds -/
inductive SV where
  | undef
  | val (t : Ty) (x : t.T)
  | nilS
  | nilI
  | nilP
  | nilM
  | nilF
  | pr (a b : SV)
  | obj (k g : Nat)
  | ptr (k : Nat) (p : List Bool) (u : Ty)
  | ptri (k : Nat) (p : List Bool) (i : Nat) (q : List Bool) (u : Ty)
  | elem (k g : Nat) (i : Nat) (q : List Bool) (u : Ty)
  | ref (t : Ty) (x : t.T)
  | fn (f : Nat) (caps : SV)
  | hof (dom cod : Ty) (F : dom.T → Option cod.T)
  | nns (e : Ty) (x : List e.T)
  | snil
  | scons (a b : SV)
  | tup (l : SV)
  | grd (toks : List (Nat × Bool)) (g : Bool) (s : SV)
  deriving Inhabited

def SV.list : SV → List SV
  | .scons a b => a :: b.list
  | _ => []

def SV.ofList : List SV → SV
  | [] => .snil
  | a :: r => .scons a (SV.ofList r)

inductive Obj where
  | box (t : Ty) (c : SV) (w : Bool)
  | sl (id : Nat) (t : Ty) (xs : List t.T) (g : Nat) (w : Bool)
  | mp (k v : Ty) (es : List (k.T × v.T)) (w : Bool)
  deriving Inhabited

structure St where
  slots : Nat → SV
  sto : Nat → Option Obj
  n : Nat

inductive Ex where
  | normal
  | exit (id : Nat)
  | ret

/-! ## Reading values -/
/-- Is a number one of a kind? -/
def inKindB (k : IntKind) (n : Int) : Bool := decide (k.min ≤ n) && decide (n ≤ k.max)

def ofConst : Value → SV
  | .bool b => .val .bool b
  | .int k n => bif inKindB k n then .val (.int k) n else .undef
  | .string s => bif Nat.ble s.data.toList.length 281474976710656 then .val .str s.data.toList else .undef
  | .slice none 0 0 => .nilS
  | .nilIface => .nilI
  | .pointer none => .nilP
  | .map none => .nilM
  | .nilFunc => .nilF
  | _ => .undef

def evalO (sl : Nat → SV) : Operand → SV
  | .tmp t => sl t
  | .const v => ofConst v
  | .func f => .fn f .snil
  | .global _ => .undef

def Ty.isIface : Ty → Bool
  | .inil => true
  | .ialt _ _ r => r.isIface
  | _ => false

/-- A leaf as a datum of a type. -/
def SV.as (t : Ty) : SV → Option t.T
  | .val u x => Ty.cast? u t x
  | .nilS => match t with | .slice e => some ([] : List e.T) | _ => none
  | .nilP => match t with | .ptr e => some (none : Option e.T) | _ => none
  | .nilI => if t.isIface = true then some t.dflt else none
  | .nns u x => Ty.cast? (.slice u) t x
  | .ref u x => match t with | .ptr e => (Ty.cast? u e x).map some | _ => none
  | _ => none

/-- The datum that a handle stands for, if it is one whose data never turn. -/
def viewA (σ : Nat → Option Obj) (k g : Nat) (t : Ty) : Option t.T :=
  match σ k with
  | some (.sl _ e xs g' w) => if Nat.beq g g' && !w then Ty.cast? (.slice e) t xs else none
  | some (.mp a b es w) => if Nat.beq g 0 && !w then Ty.cast? (.map a b) t es else none
  | _ => none

def SV.asV (σ : Nat → Option Obj) (t : Ty) : SV → Option t.T
  | .obj k g => viewA σ k g t
  | s => s.as t

def castBare (u p : Ty) (x : u.T) : Option p.T := match u, x with
  | .agg q, x => Ty.cast? q p x
  | u, x => Ty.cast? u p x

/-- A leaf of a box as a datum of a type. -/
def SV.asL (σ : Nat → Option Obj) (t : Ty) : SV → Option t.T
  | .val u x => castBare u t x
  | s => s.asV σ t

/-- A part as a datum of a type: a struct of one field is its field. -/
def castL (u t : Ty) (x : u.T) : Option t.T := match t with
  | .agg p => Ty.cast? u (.agg p) x
  | t => castBare u t x

/-- What lies in a box (or a leaf) as a datum of a type. -/
def SV.asC (σ : Nat → Option Obj) : (t : Ty) → SV → Option t.T
  | .prod a b => fun s => match s with
    | .pr x y => match SV.asC σ a x, SV.asC σ b y with
      | some u, some v => some (u, v)
      | _, _ => none
    | .val u x => castBare u (.prod a b) x
    | s => s.as (.prod a b)
  | .agg p => fun s => match s with
    | .val u x => castBare u p x
    | s => SV.asC σ p s
  | .unit => SV.asL σ .unit
  | .bool => SV.asL σ .bool
  | .int k => SV.asL σ (.int k)
  | .str => SV.asL σ .str
  | .slice e => SV.asL σ (.slice e)
  | .arr n e => SV.asL σ (.arr n e)
  | .ptr e => SV.asL σ (.ptr e)
  | .map k v => SV.asL σ (.map k v)
  | .inil => SV.asL σ .inil
  | .ialt i t r => SV.asL σ (.ialt i t r)

/-! ## Places in boxes -/
/-- A content taken apart: its first and its other part. -/
def SV.halves : SV → Option (SV × SV)
  | .pr a b => some (a, b)
  | .val (.prod a b) x => some (.val a x.1, .val b x.2)
  | .val (.agg (.prod a b)) x => some (.val a (Prod.fst x), .val b (Prod.snd x))
  | _ => none

def SV.getAt : SV → List Bool → Option SV
  | s, [] => some s
  | s, b :: r => match s.halves with
    | some (x, y) => (bif b then y else x).getAt r
    | none => none

def SV.setAt : SV → List Bool → SV → Option SV
  | _, [], v => some v
  | s, b :: r, v => match s.halves with
    | some (x, y) => bif b then (y.setAt r v).map (.pr x ·) else (x.setAt r v).map (.pr · y)
    | none => none

/-- A part of a datum. -/
def Ty.at : (t : Ty) → List Bool → t.T → Option ((u : Ty) × u.T)
  | t, [], x => some ⟨t, x⟩
  | .prod a b, i :: r, x => bif i then Ty.at b r x.2 else Ty.at a r x.1
  | .agg (.prod a b), i :: r, x => bif i then Ty.at b r (Prod.snd x) else Ty.at a r (Prod.fst x)
  | _, _ :: _, _ => none

/-- A datum with another part. -/
def Ty.put : (t : Ty) → List Bool → t.T → (u : Ty) → u.T → Option t.T
  | t, [], _, u, y => Ty.cast? u t y
  | .prod a b, i :: r, x, u, y => bif i then (Ty.put b r x.2 u y).map (fun z => (x.1, z)) else (Ty.put a r x.1 u y).map (fun z => (z, x.2))
  | .agg (.prod a b), i :: r, x, u, y =>
    bif i then (Ty.put b r (Prod.snd x) u y).map (fun z => ((Prod.fst x : a.T), z)) else (Ty.put a r (Prod.fst x) u y).map (fun z => (z, (Prod.snd x : b.T)))
  | _, _ :: _, _, _, _ => none

/-- The way to field f of a struct of n fields. -/
def fieldPath : (n f : Nat) → List Bool
  | 0, _ => []
  | 1, _ => []
  | _ + 2, 0 => [false]
  | n + 2, f + 1 => true :: fieldPath (n + 1) f

/-! ## Places, reckoned by types -/
def Ty.off : Ty → List Bool → Option Nat
  | _, [] => some 0
  | .prod a b, i :: r => bif i then (b.off r).map (a.sz + ·) else a.off r
  | .agg p, i :: r => Ty.off p (i :: r)
  | _, _ :: _ => none

def Ty.sub : Ty → List Bool → Option Ty
  | t, [] => some t
  | .prod a b, i :: r => bif i then b.sub r else a.sub r
  | .agg p, i :: r => Ty.sub p (i :: r)
  | _, _ :: _ => none

/-- A struct's type without its mark. -/
def Ty.bare : Ty → Ty
  | .agg t => t
  | t => t

/-- How many fields a struct's type has. -/
def Ty.fields : Ty → Nat
  | .prod _ b => b.fields + 1
  | .unit => 0
  | _ => 1

end Go.Ev
