/-
  THE EVALUATOR: REGIONS, CODE, FUNCTIONS.
-/
import Derived.Test.YtncjpbogjfibfaaGreatDoorEvB
import GoSem.Core.Region
set_option linter.unusedVariables false
set_option linter.unusedSimpArgs false
namespace Go.Ev

def SV.unagg : SV → SV
  | .val (.agg p) x => .val p (show p.T from x)
  | s => s

def convTo (t : Ty) : SV → Option OpRes
  | .val (.int _) n => match t with
    | .int k => some (.v (.val (.int k) (k.wrap (show Int from n))))
    | _ => none
  | .val .str s => match t with
    | .str => some (.v (.val .str s))
    | _ => none
  | _ => none

/-- A string's bytes as a slice, and back. -/
def opConvert (σ : Nat → Option Obj) (st t : Ty) (x : SV) : Option OpRes :=
  match t with
  | .slice (.int .u8) => match x with
    | .val .str s => some (.v (.val (.slice (.int .u8)) (bytesOf s)))
    | _ => none
  | .str => match x with
    | .val .str s => some (.v (.val .str s))
    | s => match bif st.same (.slice (.int .u8)) then s.asV σ (.slice (.int .u8)) else none with
      | some xs => some (.may Str (cat? [] (strOf xs)) [] fun y => ⟨.val .str y, []⟩)
      | none => none
  | t => convTo t x

def mks? {α : Type} (B : Nat) (l c : Int) (z : α) : Option (List α) :=
  bif decide (0 ≤ l) && (decide (l ≤ c) && decide (c.toNat * B ≤ 70368744177664)) then some (List.replicate l.toNat z) else none

def toTy (t : Ty) (s : SV) : Option OpRes := match s with
  | .val u x => match Ty.cast? u t x with
    | some y => some (.v (.val t y))
    | none => none
  | _ => none

/-- The alternative with a number, if it is that one. -/
def castF (a t : Ty) : Option (a.T → t.T) := if h : a.same t = true then some (fun x => Ty.same_eq h ▸ x) else none

def project (id : Nat) (t : Ty) : (u : Ty) → Option (u.T → Option t.T)
  | .ialt j a r => match project id t r with
    | some f => bif Nat.beq id j then (match castF a t with
        | some g => some (fun x => Sum.casesOn (motive := fun _ => Option t.T) x (fun y => some (g y)) f)
        | none => none)
      else some (fun x => Sum.casesOn (motive := fun _ => Option t.T) x (fun _ => none) f)
    | none => none
  | .inil => some (fun _ => none)
  | _ => none

def opV (E : Env) (ρ : Operand → SV) (ρt ρf : Operand → SV) (σ : Nat → Option Obj) (self : Nat) (o : Oper) : Option OpRes :=
  let wf : Bool := match o.dst with | some d => E.wr d | none => false
  match o.op with
  | .move x => some (.v (ρ x))
  | .assign x => some (.v (ρ x))
  | .pick c a b => opPick (ρ c) (ρt a) (ρf b)
  | .alloc t => match E.ty t with
    | some ty => some (.pure ⟨.ptr self [] ty.bare, [(self, some (.box ty.bare (zeroC ty.bare) true))]⟩)
    | none => none
  | .box t v => match E.ty t with
    | some ty => match storable ty (ρ v) with
      | some c => some (.pure ⟨.ptr self [] ty.bare, [(self, some (.box ty.bare c.unagg true))]⟩)
      | none => none
    | none => none
  | .build t ps => match E.ty t with
    | some ty => opBuild σ ty (ps.toList.map fun p => (p.1, ρ p.2))
    | none => none
  | .buildSlice t len ps => match E.ty t with
    | some (.slice e) => match bif Nat.beq len 0 then (match ps.toList with | [] => some ([] : List e.T) | _ => none) else bif Nat.ble (len * e.sz) 16777216 then putElems σ e (ps.toList.map fun p => (p.1, ρ p.2)) (List.replicate len e.dflt) else none with
      | some xs => some (.pure ⟨.obj self 0, [(self, some (.sl (E.el t) e xs 0 wf))]⟩)
      | none => none
    | _ => none
  | .insert t m k v => match E.ty t with
    | some ty => opPut σ ty (ρ m) (ρ k) (ρ v)
    | none => none
  | .mapUpdate t m k v => match E.ty t with
    | some ty => opPut σ ty (ρ m) (ρ k) (ρ v)
    | none => none
  | .load t a => match E.ty t with
    | some ty => (loadAt σ ty (ρ a)).map .v
    | none => none
  | .store t a v => match E.ty t with
    | some ty => (storeAt σ ty (ρ v) (ρ a)).map fun p => .pure ⟨.undef, [(p.1, some p.2)]⟩
    | none => none
  | .nilCheck x => match ρ x with
    | .ptr k p u => some (.v (.ptr k p u))
    | .ptri k p i q u => some (.v (.ptri k p i q u))
    | .elem k g i q u => some (.v (.elem k g i q u))
    | .ref t y => some (.v (.ref t y))
    | .val (.ptr e) y => some (.may e.T (show Option e.T from y) e.dflt fun z => ⟨.ref e z, []⟩)
    | .fn f c => some (.v (.fn f c))
    | .hof d c F => some (.v (.hof d c F))
    | _ => none
  | .binOp op t x y _ => match nilCmp op (E.ty t) (ρ x) (ρ y) with
    | some r => some r
    | none => bif (match ρ x with | .val .bool _ => (match E.ty t with | some .bool => true | _ => false) | _ => true) then opBin op (ρ x) (ρ y) else none
  | .unOp op _ x => opUn op (ρ x)
  | .convert st t x => match E.ty st, E.ty t with
    | some sy, some ty => opConvert σ sy ty (ρ x)
    | _, _ => none
  | .makeInterface t x => match E.ty t, E.ty o.type with
    | some a, some u => bif a.isIface then none else match (ρ x).asV σ a with
      | some y => (inject t a y u).map fun z => .v (.val u z)
      | none => none
    | _, _ => none
  | .makeFunc (.func f) first caps => match first.toList with
    | [] => some (.v (.fn f (SV.ofList (caps.toList.map ρ))))
    | _ => none
  | .makeMap t h => match E.ty t with
    | some (.map k v) => bif (match h with | none => true | some x => (match ρ x with | .val (.int _) _ => true | _ => false)) then some (.pure ⟨.obj self 0, [(self, some (.mp k v [] true))]⟩) else none
    | _ => none
  | .makeSlice t l c => match E.ty t, ρ l, ρ c with
    | some (.slice e), .val (.int .i64) a, .val (.int .i64) b =>
      some (.may (List e.T) (mks? (24 * e.sz) a b e.dflt) [] fun zs => ⟨.obj self 0, [(self, some (.sl (E.el t) e zs 0 wf))]⟩)
    | _, _, _ => none
  | .slice t x lo hi none => match E.ty t with
    | some ty => opSlice σ ty (ρ x) (lo.map ρ) (hi.map ρ)
    | none => none
  | .fieldAddr t x f => match E.ty t with
    | some (.agg p) => bif Nat.blt f p.fields then (opFieldAddr p f (ρ x)).map .v else none
    | _ => none
  | .field t x f => match E.ty t with
    | some (.agg p) => bif Nat.blt f p.fields then opField p f (ρ x) else none
    | _ => none
  | .indexAddr t x i => match E.ty t, ρ i with
    | some ty, .val (.int _) n => opIndexAddr σ ty n (ρ x)
    | _, _ => none
  | .index t x i => match E.ty t, ρ i with
    | some ty, .val (.int _) n => opIndex ty n (ρ x)
    | _, _ => none
  | .lookup t m k ok => match E.ty t with
    | some ty => opLookup σ ty ok (ρ m) (ρ k)
    | none => none
  | .extract x i => opExtract (ρ x) i
  | .typeAssert x _ t true => match E.ty t, ρ x with
    | some ty, .val u y => bif ty.isIface then none else match project t ty u with
      | some f => some (.v (.tup (.scons (.val ty ((f y).getD ty.dflt)) (.scons (.val .bool (f y).isSome) .snil))))
      | none => none
    | _, _ => none
  | .call { callee := .builtin b, args := as, argTypes := ts } => match b, as.toList with
    | .len, [x] => match ts.toList with
      | [t] => match E.ty t with
        | some ty => opLen σ ty (ρ x)
        | none => none
      | _ => none
    | .append, [s, x] => match ts.toList with
      | [t, t'] => bif Nat.beq t t' then (match E.ty t with
        | some ty => opAppend σ wf self (E.el t) ty (ρ s) (ρ x)
        | none => none) else none
      | _ => none
    | .min, [x, y] => match ρ x, ρ y with
      | .val (.int k) a, .val (.int l) c => bif sameKind k l then some (.v (.val (.int k) (minI a c))) else none
      | _, _ => none
    | .max, [x, y] => match ρ x, ρ y with
      | .val (.int k) a, .val (.int l) c => bif sameKind k l then some (.v (.val (.int k) (maxI a c))) else none
      | _, _ => none
    | _, _ => none
  | .call { callee := .value f, args := as, argTypes := _ } => opCallV E.fs σ self (ρ f) (as.toList.map ρ)
  | _ => none

/-- The keys of handles that lie where a pointer points to. -/
def hkP (σ : Nat → Option Obj) (s : SV) : List Nat := match s with
  | .ptr k p _ => match σ k with
    | some (.box _ c _) => match c.getAt p with
      | some x => hkC σ x
      | none => []
    | _ => []
  | _ => []

/-! ## What an operation takes as data, may no more turn -/
def frzKeys (E : Env) (ρ : Operand → SV) (σ : Nat → Option Obj) (o : Oper) : List Nat := match o.op with
  | .build _ ps => ps.toList.flatMap fun p => hk σ (ρ p.2)
  | .buildSlice _ _ ps => ps.toList.flatMap fun p => hk σ (ρ p.2)
  | .insert _ _ _ v => hk σ (ρ v)
  | .mapUpdate _ _ _ v => hk σ (ρ v)
  | .makeInterface _ x => hk σ (ρ x)
  | .load t x => match E.ty t with
    | some (.agg _) => hkP σ (ρ x)
    | _ => []
  | .indexAddr t x _ => match E.ty t with
    | some (.arr _ (.arr _ _)) => match ρ x with
      | .ptr k _ _ => match σ k with
        | some (.box _ _ true) => [k]
        | _ => []
      | _ => []
    | _ => []
  | .call { callee := .builtin .append, args := as, argTypes := _ } => match as.toList with
    | [_, x] => hk σ (ρ x)
    | _ => []
  | .call { callee := .value f, args := as, argTypes := _ } => match ρ f with
    | .fn n caps => match E.fs n with
      | some sp => frzL σ sp.ps (as.toList.map ρ ++ caps.list)
      | none => []
    | .hof _ _ _ => as.toList.flatMap fun x => hk σ (ρ x)
    | _ => []
  | _ => []

def OpRes.also (fz : List (Nat × Option Obj)) : OpRes → OpRes
  | .pure u => .pure ⟨u.sv, u.wr ++ fz⟩
  | .may α m d u => .may α m d fun x => ⟨(u x).sv, (u x).wr ++ fz⟩

def opF (E : Env) (ρ ρt ρf : Operand → SV) (σ : Nat → Option Obj) (self : Nat) (o : Oper) : Option OpRes :=
  match opV E ρ ρt ρf (putSto σ (frzUpd σ (frzKeys E ρ σ o))) self o with
  | some r => some (r.also (frzUpd σ (frzKeys E ρ σ o)))
  | none => none

/-! ## Regions -/
/-- The tokens of an operation's guard, and whether they hold. -/
def guardToks (all : Array Oper) (sl : Nat → SV) (o : Oper) : Option (List (Nat × Bool) × Bool) := match o.guard with
  | none => some ([], true)
  | some (j, w) => match all[j]? with
    | some p => match p.dst with
      | some t => match sl t with
        | .val .bool b => some ([(t, w)], bif w then b else !b)
        | .grd tk g (.val .bool b) => some ((t, w) :: tk, g && (bif w then b else !b))
        | _ => none
      | none => none
    | none => none

def hasTok (t : Nat × Bool) : List (Nat × Bool) → Bool
  | [] => false
  | u :: r => (Nat.beq t.1 u.1 && (bif t.2 then u.2 else !u.2)) || hasTok t r

def SV.strip (tk : List (Nat × Bool)) : SV → SV
  | .grd tk' _ s => bif tk'.all (hasTok · tk) then s else .undef
  | s => s

def pickTok (c : Operand) (w : Bool) (tk : List (Nat × Bool)) : List (Nat × Bool) := match c with
  | .tmp t => (t, w) :: tk
  | _ => tk

def guardM {α : Type} (tk : List (Nat × Bool)) (g : Bool) (m : Option α) (d : α) : Option α := match tk with
  | [] => m
  | _ => bif g then m else some d

def putSlot (sl : Nat → SV) (d : Option Nat) (s : SV) : Nat → SV := match d with
  | none => sl
  | some d => fun t => bif Nat.beq t d then s else sl t

def inSelf (self k : Nat) : Bool := Nat.ble self k && Nat.blt k (self + 8)
def Upd.local (self : Nat) (u : Upd) : Bool := u.wr.all fun p => inSelf self p.1

def SV.isHandle : SV → Bool
  | .obj _ _ => true | .ptr _ _ _ => true | .ptri _ _ _ _ _ => true | .elem _ _ _ _ _ => true | .fn _ (.scons _ _) => true | _ => false

/-- 0: asks nothing of the store; 1: reads it. (2, set later: writes what is there.) -/
def opClass (ρ : Operand → SV) (op : Op) : Nat := match op with
  | .move _ => 0 | .assign _ => 0 | .fieldAddr _ _ _ => 0 | .nilCheck _ => 0 | .extract _ _ => 0 | .alloc _ => 0 | .makeMap _ _ => 0 | .makeFunc _ _ _ => 0
  | .call c => bif (c.operands.toList.any fun x => (ρ x).isHandle) then 1 else 0
  | op => bif (op.operands.toList.any fun x => (ρ x).isHandle) then 1 else 0

/-- Is one of two operations to come before the other one? -/
def ordered (b : Array Nat) (i j : Nat) : Bool := bif Nat.blt i j then (b.getD j 0).testBit i else (b.getD i 0).testBit j

def namesOf (all : Array Oper) (o : Oper) : List Nat :=
  (o.op.operands.toList.filterMap fun | .tmp t => some t | _ => none) ++ (match o.guard with
    | some (j, _) => match all[j]? with
      | some p => p.dst.toList
      | none => []
    | none => []) ++ o.dst.toList

/-- Whatever order is taken: who writes a slot, and who names it, come one after the other; who writes what is there, and who asks the store, too. -/
def orderOK (all : Array Oper) (cl : List Nat) : Bool :=
  let b := Region.before all
  let n := all.size
  ((List.range n).all fun i => (all.getD i default).after.toList.all fun e => !(Region.binds .any e) || Nat.blt e.on i) &&
  (List.range n).all fun i => (List.range n).all fun j => Nat.beq i j ||
    (((match (all.getD i default).dst with | some t => !(namesOf all (all.getD j default)).contains t | none => true) || ordered b i j) &&
     (!(Nat.beq (cl.getD i 0) 2) || Nat.beq (cl.getD j 0) 0 || ordered b i j))

/-- What an operation sees of the store. -/
def seen (all : Array Oper) (draw : Bool) (n0 i c : Nat) (σ : Nat → Option Obj) : Nat → Option Obj :=
  bif Nat.beq c 0 then fun _ => none
  else bif draw then fun k => bif Nat.blt k n0 || ((Region.before all).getD i 0).testBit ((k - n0) / 8) then σ k else none
  else σ

/-- Are all writes to what was seen, or to what the operation itself makes? -/
def wrOK (σ : Nat → Option Obj) (self : Nat) (u : Upd) : Bool := u.wr.all fun p => inSelf self p.1 || (σ p.1).isSome

def hasGuard (all : Array Oper) : Bool := all.toList.any fun o => match o.guard with | some _ => true | none => false

def dropGuards (sl : Nat → SV) : Nat → SV := fun t => match sl t with
  | .grd _ _ _ => .undef
  | s => s

/-- Slots that are written once. -/
def dsts (all : Array Oper) : List Nat := all.toList.filterMap (·.dst)

section
variable {Ω : Type}

/-- Under a guard nothing is written, and nothing is made. -/
def calm (tk : List (Nat × Bool)) (u : Upd) : Bool := match tk with
  | [] => true
  | _ => match u.wr with
    | [] => true
    | _ => false

/-- One operation's result, handed on. -/
def evRes (tk : List (Nat × Bool)) (g : Bool) (r : OpRes) (K : Upd → Option Ω) : Option Ω := match r with
  | .pure u => bif calm tk u then K u else none
  | .may _ m d u => Option.bind (guardM tk g m d) fun x => bif calm tk (u x) then K (u x) else none

def mkGrd (tk : List (Nat × Bool)) (g : Bool) (s : SV) : SV := match tk with
  | [] => s
  | tk => .grd tk g s

def evOps (E : Env) (all : Array Oper) (draw : Bool) (n0 : Nat) : List Oper → Nat → St → List Nat → (St → List Nat → Option Ω) → Option Ω
  | [], _, st, cl, K => K st cl
  | o :: rest, i, st, cl, K => match guardToks all st.slots o with
    | none => none
    | some (tk, g) =>
      let ρ := fun x => (evalO st.slots x).strip tk
      let c := opClass ρ o.op
      let σ := seen all draw n0 i c st.sto
      match opF E ρ (match o.op with | .pick c _ _ => fun x => (evalO st.slots x).strip (pickTok c true tk) | _ => ρ)
          (match o.op with | .pick c _ _ => fun x => (evalO st.slots x).strip (pickTok c false tk) | _ => ρ) σ (n0 + 8 * i) o with
      | none => none
      | some r => evRes tk g r fun u => bif wrOK σ (n0 + 8 * i) u then
          evOps E all draw n0 rest (i + 1) { slots := putSlot st.slots o.dst (mkGrd tk g u.sv), sto := putSto st.sto u.wr, n := st.n }
            ((bif u.local (n0 + 8 * i) then c else 2) :: cl) K
        else none

def guardsBack (all : Array Oper) : Bool := (List.range all.size).all fun i => match (all.getD i default).guard with
  | some (j, _) => Nat.blt j i
  | none => true

def evRegion (E : Env) (ops : Array Oper) (draw : Bool) (st : St) (K : St → Option Ω) : Option Ω :=
  bif hasGuard ops && !(distinct (dsts ops) && guardsBack ops) then none else
  evOps E ops draw st.n ops.toList 0 st [] fun st' cl =>
    bif !draw || orderOK ops cl.reverse then
      K { slots := bif hasGuard ops then dropGuards st'.slots else st'.slots, sto := st'.sto, n := st.n + 8 * ops.size }
    else none

/-! ## Code -/
def nodes : Code → Nat
  | .seq a b => nodes a + nodes b
  | .cond _ a b => 1 + (nodes a + nodes b)
  | .block _ b => nodes b
  | .loop b => 1 + nodes b
  | _ => 0

def evCut (E : Env) (c : CSpec) (st : St) (K : Ex → St → Option Ω) : Option Ω := match parseK E.fs c.inn (frzSt c.inn st) with
  | some v => Option.bind (c.F v) fun x => outElim (frzSt c.inn st) c.wrs (keysL (frzSt c.inn st).sto c.inn.sh (c.inn.tm.map st.slots)) c.outs x K
  | none => none

def evC (E : Env) : Code → Nat → St → (Ex → St → Option Ω) → Option Ω
  | .skip, _, st, K => K .normal st
  | .region _ ops draw, _, st, K => evRegion E ops draw st (K .normal)
  | .seq a b, n, st, K => evC E a n st fun e st' => match e with
    | .normal => evC E b (n + nodes a) st' K
    | e => K e st'
  | .cond c a b, n, st, K => match E.cut n with
    | some s => evCut E s st K
    | none => match evalO st.slots c with
      | .val .bool t => cond t (evC E a (n + 1) st K) (evC E b (n + 1 + nodes a) st K)
      | _ => none
  | .block id b, n, st, K => evC E b n st fun e st' => match e with
    | .exit i => bif Nat.beq i id then K .normal st' else K (.exit i) st'
    | e => K e st'
  | .loop _, n, st, K => match E.cut n with
    | some s => evCut E s st K
    | none => none
  | .exit id, _, st, K => K (.exit id) st
  | .ret, _, st, K => K .ret st
  | _, _, _, _ => none
end

/-! ## A loop's round, and a function -/
/-- What a loop's round hands on: to the next round, or out. -/
def outPut (fs : Nat → Option FSpec) : (l : List (Ex × Kp)) → Ex → St → Option (OutT l)
  | [], _, _ => none
  | [o], e, st => bif sameEx o.1 e then parseK fs o.2 (frzSt o.2 st) else none
  | o :: p :: r, e, st => bif sameEx o.1 e then (parseK fs o.2 (frzSt o.2 st)).map Sum.inl else (outPut fs (p :: r) e st).map Sum.inr
  where sameEx : Ex → Ex → Bool
  | .normal, .normal => true
  | .exit i, .exit j => Nat.beq i j
  | .ret, .ret => true
  | _, _ => false

/-- One round of a loop, what follows in the next round as 'next'. -/
def evRound (E : Env) (body : Code) (n : Nat) (inn : Kp) (outs : List (Ex × Kp)) (next : TupR inn.sh → Option (OutT outs)) (v : TupR inn.sh) : Option (OutT outs) :=
  evC E body n (mkSt inn v) fun e st => match e with
    | .normal => match parseK E.fs inn (frzSt inn st) with
      | some w => next w
      | none => none
    | e => outPut E.fs outs e st

/-- A branch as a function of its own. -/
def evPart (E : Env) (c : Operand) (a b : Code) (n : Nat) (inn : Kp) (outs : List (Ex × Kp)) (v : TupR inn.sh) : Option (OutT outs) :=
  match evalO (mkSt inn v).slots c with
  | .val .bool t => cond t (evC E a (n + 1) (mkSt inn v) (outPut E.fs outs)) (evC E b (n + 1 + nodes a) (mkSt inn v) (outPut E.fs outs))
  | _ => none

def resL (ty : Nat → Option Ty) (st : St) : List ResultVar → Option (List SV)
  | [] => some []
  | .tmp t :: r => match resL ty st r with
    | some l => some (st.slots t :: l)
    | none => none
  | .cell a t :: r => match ty t with
    | some u => match loadAt st.sto u (st.slots a) with
      | some s => match resL ty st r with
        | some l => some (s :: l)
        | none => none
      | none => none
    | none => none

def boxesOf : List Sh → List SV → List SV
  | .box _ :: ps, v :: vs => v :: boxesOf ps vs
  | .io _ _ :: ps, v :: vs => v :: boxesOf ps vs
  | _ :: ps, _ :: vs => boxesOf ps vs
  | _, _ => []

/-- What lies in the results' cells, is handed out as data. -/
def frzRes (st : St) : List ResultVar → List Nat
  | [] => []
  | .tmp _ :: r => frzRes st r
  | .cell a _ :: r => hkP st.sto (st.slots a) ++ frzRes st r

def frzEnd (st : St) (l : List ResultVar) : St := { slots := st.slots, sto := putSto st.sto (frzUpd st.sto (frzRes st l)), n := st.n }

/-- A function's body on data. -/
def evFun (E : Env) (fn : Func) (ps rs : List Sh) (v : TupR ps) : Option (TupR (rs ++ ps.filter isBox)) :=
  let k : Kp := ⟨List.range ps.length, ps⟩
  let st0 := mkSt k v
  let fin : St → Option (TupR (rs ++ ps.filter isBox)) := fun st0 =>
    let st := frzEnd st0 fn.results.toList
    match resL E.ty st fn.results.toList with
    | some l => parseN E.fs (frzSto st.sto (rs ++ ps.filter isBox) (l ++ boxesOf ps ((List.range ps.length).map st.slots))) (rs ++ ps.filter isBox) (l ++ boxesOf ps ((List.range ps.length).map st.slots))
    | none => none
  match fn.body with
  | some b => evC E b 0 st0 fun e st => match e with
    | .normal => fin st
    | .ret => fin st
    | .exit _ => none
  | none => none

end Go.Ev
