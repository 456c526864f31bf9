/-
  THE EVALUATOR: SHAPES AND OPERATIONS.
-/
import Derived.Test.YtncjpbogjfibfaaGreatDoorEvA
import GoSem.Op.String
set_option linter.unusedVariables false
set_option linter.unusedSimpArgs false
namespace Go.Ev

/-! ## Shapes: what is handed to a function, to a loop, and back -/
inductive Sh where
  | val (t : Ty)
  | own (id : Nat) (t : Ty) (w : Bool)
  | io (id : Nat) (t : Ty)
  | omap (k v : Ty)
  | box (c : Sh)
  | pr (a b : Sh)
  | hof (d c : Ty)
  | fn (f : Nat)
  | nilS
  | nns (e : Ty)
  deriving Inhabited

def Sh.T : Sh → Type
  | .val t => t.T
  | .own _ t _ => List t.T
  | .io _ t => List t.T
  | .omap k v => List (k.T × v.T)
  | .box c => c.T
  | .pr a b => a.T × b.T
  | .hof d c => d.T → Option c.T
  | .fn _ => Unit
  | .nilS => Unit
  | .nns e => List e.T

/-- The type of what lies in a place of a shape. -/
def Sh.ty : Sh → Ty
  | .val t => t
  | .own _ t _ => .slice t
  | .io _ t => .slice t
  | .omap k v => .map k v
  | .box c => .ptr c.ty
  | .pr a b => .prod a.ty b.ty
  | .hof _ _ => .bool
  | .fn _ => .bool
  | .nilS => .slice .bool
  | .nns e => .slice e

def TupR : List Sh → Type
  | [] => Unit
  | [a] => a.T
  | a :: b :: r => a.T × TupR (b :: r)

def isBox : Sh → Bool
  | .box _ => true
  | .io _ _ => true
  | _ => false

def Sh.dflt : (s : Sh) → s.T
  | .val t => t.dflt
  | .own _ t _ => ([] : List t.T)
  | .io _ t => ([] : List t.T)
  | .omap k v => ([] : List (k.T × v.T))
  | .box c => c.dflt
  | .pr a b => (a.dflt, b.dflt)
  | .hof _ _ => fun _ => none
  | .fn _ => ()
  | .nilS => ()
  | .nns e => ([] : List e.T)

def TupR.dflt : (l : List Sh) → TupR l
  | [] => ()
  | [a] => a.dflt
  | a :: b :: r => (a.dflt, TupR.dflt (b :: r))

/-- What a function does. 'ps': its parameters; 'rs': its results; behind them comes what the boxes among the parameters hold. -/
def allVal : List Sh → Bool
  | [] => true
  | .val _ :: r => allVal r
  | _ => false

structure FSpec where
  ps : List Sh
  rs : List Sh
  F : TupR ps → Option (TupR (rs ++ ps.filter isBox))

/-- Which slots are kept. -/
structure Kp where
  tm : List Nat
  sh : List Sh

/-- A loop (or a branch) as one function: what it is handed, how it can be left, and with what. -/
def OutT : List (Ex × Kp) → Type
  | [] => Empty
  | [o] => TupR o.2.sh
  | o :: p :: r => Sum (TupR o.2.sh) (OutT (p :: r))

/-- 'wrs': the slots that it may write. -/
structure CSpec where
  inn : Kp
  outs : List (Ex × Kp)
  wrs : List Nat
  F : TupR inn.sh → Option (OutT outs)

structure Env where
  ty : Nat → Option Ty
  fs : Nat → Option FSpec
  cut : Nat → Option CSpec
  wr : Nat → Bool
  el : Nat → Nat

/-! ## Out of a state, and into one -/
/-- Several arguments, as one datum: a pair of pairs. -/
def isProd : Ty → Bool
  | .prod _ _ => true
  | _ => false

def toOne (a : Sh) (d : Ty) (x : d.T) : Option a.T := match a with
  | .val t => bif isProd d then none else Ty.cast? d t x
  | _ => none

def toPair {R : Type} (a : Sh) (f : (e : Ty) → e.T → Option R) (d : Ty) (x : d.T) : Option (a.T × R) := match a with
  | .val t => match d, x with
    | .prod p q, x => match Ty.cast? p t x.1, f q x.2 with
      | some y, some z => some (y, z)
      | _, _ => none
    | _, _ => none
  | _ => none

def toTup : (ps : List Sh) → (d : Ty) → d.T → Option (TupR ps)
  | [], _, _ => none
  | [a], d, x => toOne a d x
  | a :: b :: r, d, x => toPair a (toTup (b :: r)) d x

/-- The results of a function that has one. -/
def ofTup : (rs : List Sh) → (c : Ty) → TupR rs → Option c.T
  | [.val t], c, y => Ty.cast? t c y
  | _, _, _ => none

def castHof (d' c' d c : Ty) (F : d'.T → Option c'.T) : Option (d.T → Option c.T) :=
  if h : d'.same d = true then (if h' : c'.same c = true then some (Ty.same_eq h ▸ Ty.same_eq h' ▸ F) else none) else none

/-- A function value as a function on data. -/
def hofOf (fs : Nat → Option FSpec) (d c : Ty) : SV → Option (d.T → Option c.T)
  | .hof d' c' F => castHof d' c' d c F
  | .fn f .snil => match fs f with
    | some sp => bif allVal sp.ps then some (fun x => (toTup sp.ps d x).bind fun v => (sp.F v).bind fun r => ofTup _ c r) else none
    | _ => none
  | _ => none

/-- A slice of the call's own. -/
def parseOwn (σ : Nat → Option Obj) (id : Nat) (t : Ty) (w : Bool) : SV → Option (List t.T)
  | .obj k g => match σ k with
    | some (.sl id' t' xs g' w') => if Nat.beq g 0 && Nat.beq g g' && (Nat.beq id id' && (bif w then w' else !w')) then Ty.cast? (.slice t') (.slice t) xs else none
    | _ => none
  | .nilS => some ([] : List t.T)
  | _ => none

/-- A map of the call's own. -/
def parseMap (σ : Nat → Option Obj) (k v : Ty) : SV → Option (List (k.T × v.T))
  | .obj j g => match σ j with
    | some (.mp k' v' es w) => if Nat.beq g 0 && w then Ty.cast? (.map k' v') (.map k v) es else none
    | _ => none
  | _ => none

def parseFn (f : Nat) : SV → Option Unit
  | .fn g .snil => if Nat.beq f g then some () else none
  | _ => none

/-- A slice that is not nil. -/
def parseNns (e : Ty) : SV → Option (List e.T)
  | .nns u x => Ty.cast? (.slice u) (.slice e) x
  | _ => none

def parseNil : SV → Option Unit
  | .nilS => some ()
  | _ => none

/-- The content of a box as a datum of a shape. -/
def parseC (σ : Nat → Option Obj) : (s : Sh) → SV → Option s.T
  | .val t, v => v.asC σ t
  | .own id t w, v => parseOwn σ id t w v
  | .io id t, v => parseOwn σ id t true v
  | .omap a b, v => parseMap σ a b v
  | .pr a b, v => match v.halves with
    | some (x, y) => match parseC σ a x, parseC σ b y with
      | some u, some w => some (u, w)
      | _, _ => none
    | none => none
  | .fn f, v => parseFn f v
  | .nilS, v => parseNil v
  | .nns e, v => parseNns e v
  | .box _, _ => none
  | .hof _ _, _ => none

def parseBox (σ : Nat → Option Obj) (c : Sh) : SV → Option c.T
  | .ptr k [] _ => match σ k with
    | some (.box t v true) => if t.same c.ty = true then parseC σ c v else none
    | _ => none
  | _ => none

def parseS (fs : Nat → Option FSpec) (σ : Nat → Option Obj) : (s : Sh) → SV → Option s.T
  | .val t, v => v.asV σ t
  | .box c, v => parseBox σ c v
  | .hof d c, v => hofOf fs d c v
  | .own id t w, v => parseOwn σ id t w v
  | .io id t, v => parseOwn σ id t true v
  | .omap a b, v => parseMap σ a b v
  | .fn f, v => parseFn f v
  | .nilS, v => parseNil v
  | .nns e, v => parseNns e v
  | .pr _ _, _ => none

/-- The keys that a reading takes. -/
def keyOwn : SV → List Nat
  | .obj k _ => [k]
  | _ => []

def keysC : (s : Sh) → SV → List Nat
  | .own _ _ _, v => keyOwn v
  | .io _ _, v => keyOwn v
  | .omap _ _, v => keyOwn v
  | .pr a b, v => match v.halves with
    | some (x, y) => keysC a x ++ keysC b y
    | none => []
  | _, _ => []

def keysBox (σ : Nat → Option Obj) (c : Sh) : SV → List Nat
  | .ptr k _ _ => k :: (match σ k with
    | some (.box _ v _) => keysC c v
    | _ => [])
  | _ => []

def keysS (σ : Nat → Option Obj) : (s : Sh) → SV → List Nat
  | .own _ _ _, v => keyOwn v
  | .io _ _, v => keyOwn v
  | .omap _ _, v => keyOwn v
  | .box c, v => keysBox σ c v
  | _, _ => []

def keysL (σ : Nat → Option Obj) : List Sh → List SV → List Nat
  | a :: l, v :: vs => keysS σ a v ++ keysL σ l vs
  | _, _ => []

def hasN (k : Nat) : List Nat → Bool
  | [] => false
  | j :: r => Nat.beq k j || hasN k r

def distinct : List Nat → Bool
  | [] => true
  | k :: r => !(hasN k r) && distinct r

def parseL (fs : Nat → Option FSpec) (σ : Nat → Option Obj) : (l : List Sh) → List SV → Option (TupR l)
  | [], [] => some ()
  | [a], [v] => parseS fs σ a v
  | a :: b :: r, v :: w => match parseS fs σ a v, parseL fs σ (b :: r) w with
    | some x, some y => some (x, y)
    | _, _ => none
  | _, _ => none

structure Mk where
  sv : SV
  obs : List (Nat × Option Obj)
  nx : Nat

def mkC : (s : Sh) → s.T → Nat → Mk
  | .val t, x, n => ⟨.val t x, [], n⟩
  | .own id t w, xs, n => ⟨.obj n 0, [(n, some (.sl id t xs 0 w))], n + 1⟩
  | .io id t, xs, n => ⟨.obj n 0, [(n, some (.sl id t xs 0 true))], n + 1⟩
  | .omap k v, es, n => ⟨.obj n 0, [(n, some (.mp k v es true))], n + 1⟩
  | .pr a b, x, n =>
    let u := mkC a x.1 n
    let v := mkC b x.2 u.nx
    ⟨.pr u.sv v.sv, u.obs ++ v.obs, v.nx⟩
  | .box c, x, n =>
    let u := mkC c x (n + 1)
    ⟨.ptr n [] c.ty, (n, some (.box c.ty u.sv true)) :: u.obs, u.nx⟩
  | .hof d c, F, n => ⟨.hof d c F, [], n⟩
  | .fn f, _, n => ⟨.fn f .snil, [], n⟩
  | .nilS, _, n => ⟨.nilS, [], n⟩
  | .nns e, x, n => ⟨.nns e x, [], n⟩

def mkL : (l : List Sh) → TupR l → Nat → List Mk
  | [], _, _ => []
  | [a], x, n => [mkC a x n]
  | a :: b :: r, x, n => mkC a x.1 n :: mkL (b :: r) x.2 (mkC a x.1 n).nx

/-- How many keys a datum of a shape takes. -/
def Sh.cnt : Sh → Nat
  | .own _ _ _ => 1
  | .io _ _ => 1
  | .omap _ _ => 1
  | .pr a b => a.cnt + b.cnt
  | .box c => c.cnt + 1
  | _ => 0

def cntL : List Sh → Nat
  | [] => 0
  | a :: r => a.cnt + cntL r

def lastNx (l : List Mk) (n : Nat) : Nat := match l with
  | [] => n
  | m :: r => lastNx r m.nx

def lookN {α : Type} (l : List (Nat × α)) (i : Nat) : Option α := match l with
  | [] => none
  | (j, x) :: r => bif Nat.beq i j then some x else lookN r i

def slotsOf (tm : List Nat) (l : List SV) (i : Nat) : SV := match tm, l with
  | t :: tm, s :: l => bif Nat.beq i t then s else slotsOf tm l i
  | _, _ => .undef

def mkSt (k : Kp) (x : TupR k.sh) : St :=
  let l := mkL k.sh x 0
  let obs := l.flatMap (·.obs)
  { slots := slotsOf k.tm (l.map (·.sv)), sto := fun i => (lookN obs i).getD none, n := lastNx l 0 }

/-- Several values, no object taken twice. -/
def parseN (fs : Nat → Option FSpec) (σ : Nat → Option Obj) (l : List Sh) (vs : List SV) : Option (TupR l) :=
  bif distinct (keysL σ l vs) then parseL fs σ l vs else none

def parseK (fs : Nat → Option FSpec) (k : Kp) (st : St) : Option (TupR k.sh) := parseN fs st.sto k.sh (k.tm.map st.slots)

/-- What was handed over is the call's own no more. -/
def gone : List Nat → List (Nat × Option Obj)
  | [] => []
  | k :: r => (k, none) :: gone r

def putSto (σ : Nat → Option Obj) : List (Nat × Option Obj) → Nat → Option Obj
  | [] => σ
  | (k, o) :: r => fun i => bif Nat.beq i k then o else putSto σ r i

/-! ## Objects that no more turn -/
def frzObj : Obj → Obj
  | .sl id t xs g _ => .sl id t xs g false
  | .mp k v es _ => .mp k v es false
  | .box t c _ => .box t c false

def frzUpd (σ : Nat → Option Obj) : List Nat → List (Nat × Option Obj)
  | [] => []
  | k :: r => match σ k with
    | some o => (k, some (frzObj o)) :: frzUpd σ r
    | none => frzUpd σ r

def unfrozen : Obj → Bool
  | .sl _ _ _ _ w => w
  | .mp _ _ _ w => w
  | .box _ _ w => w

/-- The key of a handle that still may turn. -/
def hk (σ : Nat → Option Obj) : SV → List Nat
  | .obj k _ => match σ k with
    | some o => bif unfrozen o then [k] else []
    | none => []
  | _ => []

def hkC (σ : Nat → Option Obj) : SV → List Nat
  | .pr a b => hkC σ a ++ hkC σ b
  | s => hk σ s

def frzCS (σ : Nat → Option Obj) : Sh → SV → List Nat
  | .val _, v => hkC σ v
  | .pr a b, .pr x y => frzCS σ a x ++ frzCS σ b y
  | _, _ => []

def frzS (σ : Nat → Option Obj) : Sh → SV → List Nat
  | .val _, v => hk σ v
  | .box c, .ptr k _ _ => match σ k with
    | some (.box _ v _) => frzCS σ c v
    | _ => []
  | _, _ => []

/-- What is to be handed over as data, may no more turn. -/
def frzL (σ : Nat → Option Obj) : List Sh → List SV → List Nat
  | s :: l, v :: vs => frzS σ s v ++ frzL σ l vs
  | _, _ => []

def frzSto (σ : Nat → Option Obj) (l : List Sh) (vs : List SV) : Nat → Option Obj := putSto σ (frzUpd σ (frzL σ l vs))

def frzSt (k : Kp) (st : St) : St := { slots := st.slots, sto := frzSto st.sto k.sh (k.tm.map st.slots), n := st.n }

/-- The state behind a cut. 'ks': the objects that were handed over. -/
def outSt (st : St) (wrs ks : List Nat) (k : Kp) (y : TupR k.sh) : St :=
  let l := mkL k.sh y st.n
  { slots := fun t => bif hasN t k.tm then slotsOf k.tm (l.map (·.sv)) t else bif hasN t wrs then .undef else st.slots t,
    sto := putSto st.sto (l.flatMap (·.obs) ++ gone ks), n := st.n + cntL k.sh }

/-- How a cut is left. -/
def outElim {Ω : Type} (st : St) (wrs ks : List Nat) : (l : List (Ex × Kp)) → OutT l → (Ex → St → Option Ω) → Option Ω
  | [], x, _ => Empty.elim x
  | [o], x, K => K o.1 (outSt st wrs ks o.2 x)
  | o :: p :: r, x, K => Sum.casesOn (motive := fun _ => Option Ω) x (fun y => K o.1 (outSt st wrs ks o.2 y)) (fun y => outElim st wrs ks (p :: r) y K)

/-! ## Operations -/
structure Upd where
  sv : SV
  wr : List (Nat × Option Obj)

inductive OpRes : Type 1 where
  | pure (u : Upd)
  | may (α : Type) (m : Option α) (d : α) (u : α → Upd)

def OpRes.v (s : SV) : OpRes := .pure ⟨s, []⟩

/-! The named functions of which what is computed consists. -/
def at? {α : Type} (l : List α) (i : Int) : Option α := bif decide (0 ≤ i) then l[i.toNat]? else none
def cut? {α : Type} (l : List α) (lo hi : Int) : Option (List α) :=
  bif decide (0 ≤ lo) && (decide (lo ≤ hi) && decide (hi ≤ l.length)) then some ((l.take hi.toNat).drop lo.toNat) else none
def cat? (a b : Str) : Option Str := bif decide (a.length + b.length ≤ 281474976710656) then some (a ++ b) else none
def app? {α : Type} (B : Nat) (a b : List α) : Option (List α) := bif decide ((a.length + b.length) * B ≤ 70368744177664) then some (a ++ b) else none
def in? (n : Nat) (i : Int) : Option Unit := bif decide (0 ≤ i) && decide (i < n) then some () else none
def div? (k : IntKind) (a b : Int) : Option Int := bif b == 0 then none else some (k.wrap (a.tdiv b))
def mod? (a b : Int) : Option Int := bif b == 0 then none else some (a.tmod b)
def bytesOf (l : Str) : List Int := l.map fun b => (b.toNat : Int)
def strOf (l : List Int) : Str := l.map fun n => UInt8.ofNat n.toNat

def eqB (x y : Bool) : Bool := x == y
def eqI (x y : Int) : Bool := x == y
def eqS (x y : Str) : Bool := x == y

def Ty.beq : (t : Ty) → t.T → t.T → Option Bool
  | .unit, _, _ => some true
  | .bool, x, y => some (eqB x y)
  | .int _, x, y => some (eqI x y)
  | .str, x, y => some (eqS x y)
  | .agg t, x, y => Ty.beq t x y
  | .prod a b, x, y => match Ty.beq a x.1 y.1, Ty.beq b x.2 y.2 with
    | some u, some v => some (u && v)
    | _, _ => none
  | _, _, _ => none

def findKV {α β : Type} (eq : α → α → Bool) (k : α) : List (α × β) → Option β
  | [] => none
  | e :: r => bif eq k e.1 then some e.2 else findKV eq k r
def putKV {α β : Type} (eq : α → α → Bool) (k : α) (v : β) : List (α × β) → List (α × β)
  | [] => [(k, v)]
  | e :: r => bif eq k e.1 then (k, v) :: r else e :: putKV eq k v r

/-- Equality on keys of maps. -/
def keyEq : (t : Ty) → Option (t.T → t.T → Bool)
  | .bool => some eqB
  | .int _ => some eqI
  | .str => some eqS
  | _ => none

def andI (k : IntKind) (a b : Int) : Int := k.wrap ((BitVec.ofInt k.bits a &&& BitVec.ofInt k.bits b).toNat : Int)
def orI (k : IntKind) (a b : Int) : Int := k.wrap ((BitVec.ofInt k.bits a ||| BitVec.ofInt k.bits b).toNat : Int)
def xorI (k : IntKind) (a b : Int) : Int := k.wrap ((BitVec.ofInt k.bits a ^^^ BitVec.ofInt k.bits b).toNat : Int)
def andNotI (k : IntKind) (a b : Int) : Int := k.wrap ((BitVec.ofInt k.bits a &&& ~~~BitVec.ofInt k.bits b).toNat : Int)
def shl? (k : IntKind) (a b : Int) : Option Int := bif decide (b < 0) then none else some (k.wrap (a * 2 ^ min b.toNat k.bits))
def shr? (k : IntKind) (a b : Int) : Option Int := bif decide (b < 0) then none else some (a.fdiv (2 ^ min b.toNat k.bits))

def arith (op : BinOp) (k : IntKind) (a b : Int) : Option OpRes :=
  match op with
  | .add => some (.v (.val (.int k) (k.wrap (a + b))))
  | .sub => some (.v (.val (.int k) (k.wrap (a - b))))
  | .mul => some (.v (.val (.int k) (k.wrap (a * b))))
  | .quo => some (.may Int (div? k a b) 0 fun x => ⟨.val (.int k) x, []⟩)
  | .rem => some (.may Int (mod? a b) 0 fun x => ⟨.val (.int k) x, []⟩)
  | .eql => some (.v (.val .bool (eqI a b)))
  | .neq => some (.v (.val .bool (!(eqI a b))))
  | .lss => some (.v (.val .bool (decide (a < b))))
  | .leq => some (.v (.val .bool (decide (a ≤ b))))
  | .gtr => some (.v (.val .bool (decide (b < a))))
  | .geq => some (.v (.val .bool (decide (b ≤ a))))
  | .and => some (.v (.val (.int k) (andI k a b)))
  | .or => some (.v (.val (.int k) (orI k a b)))
  | .xor => some (.v (.val (.int k) (xorI k a b)))
  | .andNot => some (.v (.val (.int k) (andNotI k a b)))
  | _ => none

def strOp (op : BinOp) (a b : Str) : Option OpRes :=
  match op with
  | .add => some (.may Str (cat? a b) [] fun x => ⟨.val .str x, []⟩)
  | .eql => some (.v (.val .bool (eqS a b)))
  | .neq => some (.v (.val .bool (!(eqS a b))))
  | .lss => some (.v (.val .bool (Op.bytesLess a b)))
  | .leq => some (.v (.val .bool (Op.bytesLess a b || eqS a b)))
  | .gtr => some (.v (.val .bool (!(Op.bytesLess a b || eqS a b))))
  | .geq => some (.v (.val .bool (!(Op.bytesLess a b))))
  | _ => none

def boolOp (op : BinOp) (x y : Bool) : Option OpRes :=
  match op with
  | .eql => some (.v (.val .bool (eqB x y)))
  | .neq => some (.v (.val .bool (!(eqB x y))))
  | _ => none

def opBin (op : BinOp) : SV → SV → Option OpRes
  | .val (.int k) a, .val (.int l) b => match op with
    | .shl => some (.may Int (shl? k a b) 0 fun x => ⟨.val (.int k) x, []⟩)
    | .shr => some (.may Int (shr? k a b) 0 fun x => ⟨.val (.int k) x, []⟩)
    | op => bif sameKind k l then arith op k a b else none
  | .val .str a, .val .str b => strOp op a b
  | .val .bool a, .val .bool b => boolOp op a b
  | _, _ => none

def nilR (op : BinOp) (b : Bool) : Option OpRes := match op with
  | .eql => some (.v (.val .bool b))
  | .neq => some (.v (.val .bool (!b)))
  | _ => none

/-- What is compared with nil. -/
def nilCmp (op : BinOp) (t : Option Ty) (x y : SV) : Option OpRes := match t with
  | some (.slice _) => match x, y with
    | .nns _ _, .nilS => nilR op false
    | .nilS, .nilS => nilR op true
    | _, _ => none
  | some (.ptr _) => match x, y with
    | .val (.ptr e) p, .nilP => nilR op (show Option e.T from p).isNone
    | .ref _ _, .nilP => nilR op false
    | .ptr _ _ _, .nilP => nilR op false
    | .nilP, .nilP => nilR op true
    | _, _ => none
  | _ => none

def opUn (op : UnOp) : SV → Option OpRes
  | .val .bool b => match op with | .not => some (.v (.val .bool (!b))) | _ => none
  | .val (.int k) n => match op with | .neg => some (.v (.val (.int k) (k.wrap (0 - (show Int from n))))) | _ => none
  | _ => none

def opPick : SV → SV → SV → Option OpRes
  | .val .bool c, .val t x, .val u y => match Ty.cast? u t y with
    | some z => some (.v (.val t (bif c then x else z)))
    | none => none
  | _, _, _ => none

/-- Parts of a value that is built: one behind the other. -/
def putField (σ : Nat → Option Obj) (p : Ty) (i : Nat) (s : SV) (x : p.T) : Option p.T :=
  bif Nat.blt i p.fields then (match p.sub (fieldPath p.fields i) with
    | some u => match s.asV σ u with
      | some y => Ty.put p (fieldPath p.fields i) x u y
      | none => none
    | none => none) else none

def putFields (σ : Nat → Option Obj) (p : Ty) : List (Nat × SV) → p.T → Option p.T
  | [], x => some x
  | q :: r, x => match putField σ p q.1 q.2 x with
    | some y => putFields σ p r y
    | none => none

def putElems (σ : Nat → Option Obj) (e : Ty) : List (Nat × SV) → List e.T → Option (List e.T)
  | [], xs => some xs
  | q :: r, xs => bif Nat.blt q.1 xs.length then (match q.2.asV σ e with
    | some y => putElems σ e r (xs.set q.1 y)
    | none => none) else none

def opBuild (σ : Nat → Option Obj) (t : Ty) (ps : List (Nat × SV)) : Option OpRes :=
  match t with
  | .agg p => (putFields σ p ps p.dflt).map fun x => .v (.val (.agg p) x)
  | .arr n e => (putElems σ e ps (List.replicate n e.dflt)).map fun x => .v (.val (.arr n e) x)
  | _ => none

/-- Into an interface: the alternative of a type. -/
def inject (id : Nat) (t : Ty) (x : t.T) : (u : Ty) → Option u.T
  | .ialt j a r => bif Nat.beq id j then (Ty.cast? t a x).map Sum.inl else (inject id t x r).map Sum.inr
  | _ => none

/-- A pointer's place in what it points into. -/
def loadAt (σ : Nat → Option Obj) (t : Ty) : SV → Option SV
  | .ref u x => (castL u t x).map (.val t ·)
  | .ptr k p _ => match σ k with
    | some (.box _ c _) => match c.getAt p with
      | some (.obj j g) => (match t with
        | .slice _ => some (.obj j g)
        | .map _ _ => some (.obj j g)
        | _ => none)
      | some (.ptr j q u) => (match t with
        | .ptr _ => some (.ptr j q u)
        | _ => none)
      | some s => (s.asC σ t).map (.val t ·)
      | none => none
    | _ => none
  | .ptri k p i q _ => match σ k with
    | some (.box _ c _) => match c.getAt p with
      | some (.val (.arr _ e) xs) => match Ty.at e q ((show List e.T from xs).getD i e.dflt) with
        | some ⟨u, y⟩ => (castL u t y).map (.val t ·)
        | none => none
      | _ => none
    | _ => none
  | .elem k g i q _ => match σ k with
    | some (.sl _ e xs g' true) => bif Nat.beq g g' then (match Ty.at e q (xs.getD i e.dflt) with
        | some ⟨u, y⟩ => (castL u t y).map (.val t ·)
        | none => none) else none
    | _ => none
  | _ => none

/-- What a new variable holds. -/
def zeroC : Ty → SV
  | .prod a b => .pr (zeroC a) (zeroC b)
  | .slice _ => .nilS
  | .agg (.prod a b) => .pr (zeroC a) (zeroC b)
  | t => .val t t.dflt

/-- What is to be stored in a cell of a type: a datum, or a handle as it is. -/
def storable (t : Ty) : SV → Option SV
  | .obj k g => (match t with
    | .slice _ => some (.obj k g)
    | .map _ _ => some (.obj k g)
    | _ => none)
  | .ptr k p u => (match t with
    | .ptr _ => some (.ptr k p u)
    | _ => none)
  | s => (s.as t).map (.val t ·)

/-- An array with another element, as a place's content. -/
def setArr (c : SV) (p : List Bool) (n : Nat) (e : Ty) (xs : List e.T) (i : Nat) (z : e.T) : Option SV := c.setAt p (.val (.arr n e) (xs.set i z))

def storeAt (σ : Nat → Option Obj) (t : Ty) (v : SV) : SV → Option (Nat × Obj)
  | .ptr k p u => if u.bare.same t.bare = true then (match σ k with
      | some (.box b c true) => match storable t v with
        | some s => (c.setAt p s).map fun c' => (k, .box b c' true)
        | none => none
      | _ => none) else none
  | .ptri k p i q _ => match σ k with
    | some (.box b c true) => match c.getAt p with
      | some (.val (.arr n e) xs) => match v.as t with
        | some y => match Ty.put e q ((show List e.T from xs).getD i e.dflt) t y with
          | some z => (setArr c p n e xs i z).map fun c' => (k, .box b c' true)
          | none => none
        | none => none
      | _ => none
    | _ => none
  | .elem k g i q _ => match σ k with
    | some (.sl id e xs g' true) => bif Nat.beq g g' then (match v.asV σ t with
        | some y => match Ty.put e q (xs.getD i e.dflt) t y with
          | some z => some (k, .sl id e (xs.set i z) g true)
          | none => none
        | none => none) else none
    | _ => none
  | _ => none

/-- A struct of one field, that is itself a struct, has no places of its own here. -/
def okField (t : Ty) : Bool := bif Nat.beq t.fields 1 then t.bare.same t else true

def opFieldAddr (t : Ty) (f : Nat) (s : SV) : Option SV :=
  bif okField t then (match s with
    | .ptr k p u => if u.bare.same t = true then (t.sub (fieldPath t.fields f)).map fun v => .ptr k (p ++ fieldPath t.fields f) v else none
    | .ptri k p i q u => if u.bare.same t = true then (t.sub (fieldPath t.fields f)).map fun v => .ptri k p i (q ++ fieldPath t.fields f) v else none
    | .elem k g i q u => if u.bare.same t = true then (t.sub (fieldPath t.fields f)).map fun v => .elem k g i (q ++ fieldPath t.fields f) v else none
    | .ref u x => match castBare u t x with
      | some y => match Ty.at t (fieldPath t.fields f) y with
        | some ⟨v, z⟩ => some (.ref v z)
        | none => none
      | none => none
    | _ => none) else none

/-- A pointer into a box that no more turns, with what it points to. -/
def asRef (σ : Nat → Option Obj) (s : SV) : SV := match s with
  | .ptr k p u => match σ k with
    | some (.box _ c false) => match c.getAt p with
      | some x => match x.asC σ u with
        | some y => .ref u y
        | none => .ptr k p u
      | none => .ptr k p u
    | _ => .ptr k p u
  | s => s

def refL (e : Ty) (xs : List e.T) (i : Int) : OpRes := .may e.T (at? xs i) e.dflt fun x => ⟨.ref e x, []⟩

def opIndexAddr (σ : Nat → Option Obj) (t : Ty) (i : Int) (s : SV) : Option OpRes :=
  match t with
  | .slice e => match s with
    | .obj k g => match σ k with
      | some (.sl _ e' xs g' w) => bif Nat.beq g g' && e'.same e then (bif w then some (.may Unit (in? xs.length i) () fun _ => ⟨.elem k g i.toNat [] e', []⟩)
          else some (refL e' xs i)) else none
      | _ => none
    | s => match s.as (.slice e) with
      | some xs => some (refL e xs i)
      | none => none
  | .arr n e => match asRef σ s with
    | .ptr k p u => bif u.same (.arr n e) then some (.may Unit (in? n i) () fun _ => ⟨.ptri k p i.toNat [] e, []⟩) else none
    | .ref u x => match Ty.cast? u (.arr n e) x with
      | some xs => some (refL e xs i)
      | none => none
    | _ => none
  | _ => none

def idxS (s : Str) (i : Int) : OpRes := .may UInt8 (at? s i) 0 fun b => ⟨.val (.int .u8) (b.toNat : Int), []⟩
def idxA (e : Ty) (xs : List e.T) (i : Int) : OpRes := .may e.T (at? xs i) e.dflt fun x => ⟨.val e x, []⟩

def opIndex (t : Ty) (i : Int) (s : SV) : Option OpRes :=
  match t with
  | .str => match s with
    | .val .str s => some (idxS s i)
    | _ => none
  | .arr n e => match s with
    | .val u x => match Ty.cast? u (.arr n e) x with
      | some xs => some (idxA e xs i)
      | none => none
    | _ => none
  | _ => none

def lenN (n : Nat) : OpRes := .v (.val (.int .i64) (n : Int))
def lenS (s : Str) : OpRes := lenN s.length
def lenL (e : Ty) (xs : List e.T) : OpRes := lenN xs.length
def len? (n : Nat) : Option Int := bif Nat.ble n 281474976710656 then some (n : Int) else none
def lenK (n : Nat) : OpRes := .may Int (len? n) 0 fun k => ⟨.val (.int .i64) k, []⟩
def lenM (a b : Ty) (es : List (a.T × b.T)) : OpRes := lenK es.length

def opLen (σ : Nat → Option Obj) (t : Ty) (s : SV) : Option OpRes :=
  match t with
  | .str => match s with
    | .val .str s => some (lenS s)
    | _ => none
  | .arr n _ => bif Nat.ble n 281474976710656 then some (lenN n) else none
  | .slice e => match s with
    | .obj k g => match σ k with
      | some (.sl _ e' xs g' _) => bif Nat.beq g g' then some (lenL e' xs) else none
      | _ => none
    | s => match s.as (.slice e) with
      | some xs => some (lenL e xs)
      | none => none
  | .map a b => match s with
    | .obj k g => match σ k with
      | some (.mp a' b' es _) => bif Nat.beq g 0 then some (lenM a' b' es) else none
      | _ => none
    | .val u x => match Ty.cast? u (.map a b) x with
      | some es => some (lenM a b es)
      | none => none
    | _ => none
  | _ => none

def bound (sl : Option SV) (d : Int) : Option Int := match sl with
  | some (.val (.int _) n) => some n
  | none => some d
  | _ => none

def sliceS (s : Str) (lo hi : Option SV) : Option OpRes := match bound lo 0, bound hi s.length with
  | some l, some h => some (.may Str (cut? s l h) [] fun y => ⟨.val .str y, []⟩)
  | _, _ => none

def sliceL (e : Ty) (xs : List e.T) (lo hi : Option SV) : Option OpRes := match bound lo 0, bound hi xs.length with
  | some l, some h => some (.may (List e.T) (cut? xs l h) [] fun y => ⟨.val (.slice e) y, []⟩)
  | _, _ => none

def opSlice (σ : Nat → Option Obj) (t : Ty) (x : SV) (lo hi : Option SV) : Option OpRes :=
  match t with
  | .str => match x with
    | .val .str s => sliceS s lo hi
    | _ => none
  | .slice e => match x.asV σ (.slice e) with
    | some xs => sliceL e xs lo hi
    | none => none
  | _ => none

def opExtract : SV → Nat → Option OpRes
  | .tup l, i => match l.list[i]? with
    | some s => some (.v s)
    | none => none
  | _, _ => none

def opField (t : Ty) (f : Nat) : SV → Option OpRes
  | .val u x => match u with
    | .agg q => match Ty.cast? q t x with
      | some y => match Ty.at t (fieldPath t.fields f) y with
        | some ⟨v, z⟩ => some (.v (.val v z))
        | none => none
      | none => none
    | _ => none
  | _ => none

def lookKV (k v : Ty) (ok : Bool) (key : SV) (es : List (k.T × v.T)) : Option OpRes := match keyEq k, key.as k with
  | some eq, some x =>
    some (.v (bif ok then .tup (.scons (.val v ((findKV eq x es).getD v.dflt)) (.scons (.val .bool (findKV eq x es).isSome) .snil)) else .val v ((findKV eq x es).getD v.dflt)))
  | _, _ => none

def opLookup (σ : Nat → Option Obj) (t : Ty) (ok : Bool) (m key : SV) : Option OpRes :=
  match t with
  | .map k v => match m with
    | .val u es => match Ty.cast? u (.map k v) es with
      | some es => lookKV k v ok key es
      | none => none
    | .obj j g => match σ j with
      | some (.mp k' v' es _) => bif Nat.beq g 0 && (k'.same k && v'.same v) then lookKV k' v' ok key es else none
      | _ => none
    | _ => none
  | _ => none

def opPut (σ : Nat → Option Obj) (t : Ty) (m key x : SV) : Option OpRes :=
  match t with
  | .map k v => match m with
    | .obj j g => match σ j with
      | some (.mp k' v' es true) => bif Nat.beq g 0 && (k'.same k && v'.same v) then (match keyEq k', key.as k', x.asV σ v' with
        | some eq, some a, some b => some (.pure ⟨.undef, [(j, some (.mp k' v' (putKV eq a b es) true))]⟩)
        | _, _, _ => none) else none
      | _ => none
    | _ => none
  | _ => none

/-- append: to nil, or to a slice of the call's own; of what, as a list. -/
def opAppend (σ : Nat → Option Obj) (w : Bool) (self id : Nat) (t : Ty) (s x : SV) : Option OpRes :=
  match t with
  | .slice e => match x.asV σ (.slice e) with
    | some ys => match s with
      | .nilS => some (.may (List e.T) (app? (24 * e.sz) [] ys) [] fun zs => ⟨.obj self 0, [(self, some (.sl id e zs 0 w))]⟩)
      | .obj k g => match σ k with
        | some (.sl id' e' xs g' w') => bif Nat.beq g 0 && (Nat.beq g' 0 && Nat.beq id id') then (match Ty.cast? (.slice e') (.slice e) xs with
          | some xs => some (.may (List e.T) (app? (24 * e.sz) xs ys) [] fun zs => ⟨.obj self 0, [(self, some (.sl id e zs 0 w')), (k, none)]⟩)
          | none => none) else none
        | _ => none
      | _ => none
    | none => none
  | _ => none

def minI (a b : Int) : Int := bif decide (b < a) then b else a
def maxI (a b : Int) : Int := bif decide (a < b) then b else a

/-- What a call leaves in the boxes that it was handed. -/
def boxBack : (ps : List Sh) → List SV → List Mk → List (Nat × Option Obj)
  | .box _ :: ps, .ptr k _ _ :: vs, m :: ms => (match m.obs with | (_, o) :: r => (k, o) :: r | [] => []) ++ boxBack ps vs ms
  | .io _ _ :: ps, .obj k _ :: vs, m :: ms => (match m.obs with | (_, o) :: r => (k, o) :: r | [] => []) ++ boxBack ps vs ms
  | .io _ _ :: ps, _ :: vs, _ :: ms => boxBack ps vs ms
  | _ :: ps, _ :: vs, ms => boxBack ps vs ms
  | _, _, _ => []

def opCall (fs : Nat → Option FSpec) (σ : Nat → Option Obj) (self : Nat) (f : Nat) (args : List SV) : Option OpRes :=
  match fs f with
  | some sp => match bif Nat.ble (cntL (sp.rs ++ sp.ps.filter isBox)) 8 then parseN fs σ sp.ps args else none with
    | some v => some (.may (TupR (sp.rs ++ sp.ps.filter isBox)) (sp.F v) (TupR.dflt _) fun r =>
        let l := mkL (sp.rs ++ sp.ps.filter isBox) r self
        let k := sp.rs.length
        let rs := l.take k
        ⟨match rs with
          | [m] => m.sv
          | _ => .tup (SV.ofList (rs.map (·.sv))), rs.flatMap (·.obs) ++ (boxBack sp.ps args (l.drop k) ++ gone (keysL σ sp.ps args))⟩)
    | none => none
  | none => none

/-- A list of slot values, told as one. -/
def okCaps : SV → Bool
  | .snil => true
  | .scons _ b => okCaps b
  | _ => false

/-- Arguments as one datum. -/
def parseArgs (σ : Nat → Option Obj) : (d : Ty) → List SV → Option d.T
  | .prod a b, s :: r => match s.asV σ a, parseArgs σ b r with
    | some x, some y => some (x, y)
    | _, _ => none
  | t, [s] => s.asV σ t
  | _, _ => none

/-- A call of a function value. -/
def opCallV (fs : Nat → Option FSpec) (σ : Nat → Option Obj) (self : Nat) (fv : SV) (args : List SV) : Option OpRes :=
  match fv with
  | .fn f caps => bif okCaps caps then opCall fs σ self f (args ++ caps.list) else none
  | .hof d c F => match parseArgs σ d args with
    | some x => some (.may c.T (F x) c.dflt fun y => ⟨.val c y, []⟩)
    | none => none
  | _ => none

end Go.Ev
