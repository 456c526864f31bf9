/-
  The evaluator on plain data, and what its operations do in the model, first part: it tells for each operation what the model's run of it gives.
-/
import Derived.KernelRfl
import GoSem.Core.Sem
import GoSem.Core.View
import GoSem.Core.World
import GoSem.Op.String
import GoSem.Core.Region
import Derived.MapKept
import Derived.Calls
import Derived.Laws.World
import Derived.Laws.Sem
import Derived.Laws.Entries
import Derived.Laws.Strings
import Derived.Laws.Concat
import Derived.Laws.Strings3
import Derived.ChangeKeysEq
import Derived.Laws.StructEq
set_option linter.unusedVariables false
set_option linter.unusedSimpArgs false
set_option linter.unusedSectionVars false
set_option maxRecDepth 100000
namespace Go
theorem o5{p:Prop}(h:p:=by omega):p:=h
theorem o7{p:Prop}(h:p:=by dsimp only;omega):p:=h
theorem oa{p:Prop}(h:p:=by kernel_rfl):p:=h
theorem oc{p:Prop}(h:p:=by simp):p:=h
theorem od{p:Prop}(h:p:=by decide):p:=h
theorem oe{p:Prop}(h:p:=by cases h):p:=h
theorem og{p:Prop}(h:p:=by simp;omega):p:=h
theorem oh{p:Prop}(h:p:=by simp[hop]):p:=h
theorem oi{p:Prop}(h:p:=by grind):p:=h
theorem ol{p:Prop}(h:p:=by simp[hop,Op.operands]):p:=h
theorem om{p:Prop}(h:p:=by simpa using hj):p:=h
theorem oq{p:Prop}(h:p:=by simpa using h2):p:=h
theorem ot{p:Prop}(h:p:=by simpa using h1):p:=h
theorem ou{p:Prop}(h:p:=by intro h;cases h):p:=h
theorem oz{p:Prop}(h:p:=by simpa using hv):p:=h
end Go
namespace Go.Ev
abbrev A0:=@List.getElem?_eq_getElem
abbrev A1:=@Option.bind_some
abbrev A2:=@Nat.eq_of_beq_eq_true
abbrev A3:=@Option.some.inj
abbrev A4:=@Bool.and_eq_true
abbrev A5:=@List.singleton_inj
abbrev A6:=@List.length_append
abbrev A7:=@decide_eq_true
abbrev A8:=@List.getElem?_eq_some_iff
abbrev A9:=@of_decide_eq_true
abbrev AA:=@cond_true
abbrev AB:=@Nat.le_refl
abbrev AC:=@cond_false
abbrev AD:=@List.mem_cons_of_mem
abbrev AE:=@decide_eq_false
abbrev AF:=@List.length_cons
abbrev AG:=@List.getD_eq_getElem?_getD
abbrev AH:=@Nat.lt_irrefl
abbrev AI:=@List.mem_cons_self
abbrev AJ:=@List.eq_nil_of_length_eq_zero
abbrev AK:=@List.getElem?_take
abbrev AL:=@List.mem_append
abbrev AM:=@Option.some.injEq
abbrev AN:=@List.mem_singleton
abbrev AO:=@of_decide_eq_false
abbrev AP:=@List.length_set
abbrev AQ:=@List.getElem?_append_left
abbrev AR:=@List.getElem?_drop
abbrev AS:=@List.mem_append_left
abbrev AT:=@List.mem_append_right
abbrev AU:=@Nat.le_trans
abbrev AV:=@List.getElem?_map
abbrev AW:=@List.length_nil
abbrev AX:=@decide_eq_true_eq
abbrev AY:=@Array.getElem?_eq_getElem
abbrev AZ:=@List.getElem?_append_right
abbrev A_:=@List.mem_cons
abbrev B0:=@Nat.lt_of_lt_of_le
abbrev B1:=@Nat.mul_le_mul_right
abbrev B2:=@List.length_map
abbrev B3:=@List.take_length
abbrev B4:=@List.length_take
abbrev B5:=@List.mem_of_getElem?
abbrev B6:=@List.nodup_nil
abbrev B7:=@List.nodup_cons
abbrev B8:=@Nat.zero_add
abbrev B9:=@List.getElem?_eq_none
abbrev BA:=@List.nodup_append
abbrev BC:=@Array.getElem?_eq_some_iff
abbrev BD:=@Option.map_some
abbrev BE:=@Array.getElem?_toList
abbrev BF:=@Int.le_refl
abbrev BG:=@List.all_eq_true
abbrev BH:=@Bool.or_eq_true
abbrev BI:=@Bool.not_eq_true'
abbrev BJ:=@List.size_toArray
abbrev BK:=@List.length_filter_le
abbrev BL:=@Array.getD_eq_getD_getElem?
abbrev BM:=@List.getElem_mem
abbrev BN:=@Int.natCast_nonneg
abbrev BO:=@Bool.not_eq_true
abbrev BP:=@List.length_drop
abbrev BQ:=@Nat.zero_le
abbrev BR:=@Array.length_toList
abbrev BS:=@Bool.or_eq_false_iff
abbrev BT:=@Option.bind_eq_some_iff
abbrev BU:=@List.length_replicate
abbrev BV:=@List.ext_getElem?
abbrev BW:=@Nat.blt_eq
abbrev BX:=@Nat.le_of_ble_eq_true
abbrev BY:=@Classical.byContradiction
abbrev BZ:=@List.pairwise_iff_getElem
abbrev B_:=@List.append_assoc
abbrev C0:=@Bool.not_true
abbrev C2:=@List.mem_map
abbrev C3:=@List.append_nil
abbrev C4:=@Array.ext'
abbrev C5:=@Nat.ble_eq_true_of_le
abbrev C6:=@Nat.mul_le_mul_left
abbrev C7:=@Nat.add_assoc
abbrev C8:=@Nat.succ_mul
abbrev C9:=@List.getElem?_of_mem
abbrev CA:=@List.mem_take_iff_getElem
abbrev CB:=@List.filter_append
abbrev CC:=@Bool.false_or
abbrev CD:=@List.length_eq_zero_iff
abbrev CE:=@Bool.true_and
abbrev CF:=@Nat.add_mul
abbrev CG:=@List.getElem?_range
abbrev CH:=@Nat.beq_refl
abbrev CI:=@Nat.add_zero
abbrev CJ:=@Array.getElem?_push_size
abbrev CK:=@if_false
abbrev CL:=@Nat.lt_or_ge
abbrev CM:=@List.drop_drop
abbrev CN:=@List.getElem?_set_self
abbrev CP:=@Array.getElem?_push_lt
abbrev CQ:=@Int.toNat_natCast
abbrev CS:=@List.drop_eq_getElem_cons
abbrev CT:=@Bool.false_eq_true
abbrev CU:=@Nat.mul_comm
abbrev CV:=@Nat.mul_one
abbrev CW:=@List.getElem?_set_ne
abbrev CX:=@List.mem_filter
abbrev CY:=@List.getElem_of_mem
abbrev CZ:=@List.take_of_length_le
abbrev C_:=@ByteArray.size_extract
abbrev D0:=@Nat.eq_zero_or_pos
abbrev D1:=@Bool.and_eq_true_iff
abbrev D2:=@List.map_cons
abbrev D3:=@List.take_append_of_le_length
abbrev D4:=@decide_eq_false_iff_not
abbrev D5:=@List.mem_range
abbrev D6:=@Bool.false_and
abbrev D7:=@Bool.not_false
abbrev D8:=@List.map_append
abbrev D9:=@Prod.mk.injEq
abbrev DA:=@List.mem_of_mem_take
abbrev DC:=@Option.getD_some
abbrev DD:=@List.getElem?_replicate
abbrev DE:=@List.drop_of_length_le
abbrev DF:=@List.length_range
abbrev DG:=@List.drop_zero
abbrev DH:=@Bool.and_eq_false_iff
abbrev DI:=@List.drop_take
abbrev DJ:=@Nat.le_of_not_lt
abbrev DK:=@Nat.pow_le_pow_right
abbrev DL:=@List.pairwise_append
abbrev DM:=@Int.fdiv_eq_ediv_of_nonneg
abbrev DN:=@List.toList_toArray
abbrev DO:=@Nat.min_eq_left
abbrev DP:=@false_and
abbrev DQ:=@List.take_take
abbrev DR:=@List.take_zero
abbrev DT:=@beq_iff_eq
abbrev DU:=@Nat.sub_self
theorem A7r{α:Type}:∀(m:Ask α) (w:World),w.drawn<=(w.ask m).2.drawn:=by
 intro m;induction m with
 |done a=>intro w;exact AB _
 |ask q r k ih=>
  intro w;simp only[World.ask];split
  .exact ih _ _
  .exact AU (Nat.le_succ _) (ih _ {w with drawn:=w.drawn+1})
theorem A7s(w:World)(c:Sys):w.drawn<=(w.sys c).2.drawn:=by
 unfold World.sys;have h:=A7r (Kernel.perform c w.os) w;split
 .exact AB _
 .rename_i r os w' _ he;rw[he]at h;exact h
theorem A7t{p:Program}{w w':World}{at_:Addr}{u:TypeId}{k:Addr}{v:Value}{b:Bool}{l:List Addr}(h:w.viewStore p at_ u k v b=.ok (w',l)):w'.drawn=w.drawn:=by
 unfold World.viewStore at h;simp only[bind,Except.bind,pure,Except.pure,throw,throwThe,MonadExceptOf.throw]at h
 repeat' split at h
 all_goals first|(cases h;done)|(cases h;rfl)|skip
theorem A7u{p:Program}{w w':World}{a:Addr}{v:Value}{b:Bool}{l:List Addr}(h:w.farStore p a v b=.ok (w',l)):w'.drawn=w.drawn:=by
 unfold World.farStore at h;split at h
 .split at h
  .rename_i r hr;cases h;exact A7t hr
  .cases h
 .cases h
theorem A7v(w:World)(a:Addr)(n:Nat):(w.freeze a n).drawn=w.drawn:=by
 unfold World.freeze
 repeat' split
 all_goals rfl
theorem fG{α:Type}{P:Program}:∀(m:Sem α) (w w':World) (x:α),m.run P w=.ok x w'->w.drawn<=w'.drawn:=by
 intro m;induction m with
 |pure a=>intro w w' x h;simp only[Sem.run]at h;cases h;exact AB _
 |load m a k ih=>
  intro w w' x h;simp only[Sem.run]at h;split at h
  .exact ih _ _ _ _ h
  .split at h
   .exact ih _ _ _ _ h
   .cases h
 |store m a v k ih=>
  intro w w' x h;cases v;all_goals simp only[Sem.run]at h
  all_goals first
   |(cases h;done)
   | (split at h
      .split at h
       .cases h
       .exact ih (w.setCell _ _) _ _ h
      .split at h
       .rename_i w1 l hf;have:=ih _ _ _ h;rw[A7u hf]at this;exact this
       .cases h)
 |new o k ih=>intro w w' x h;simp only[Sem.run]at h;exact ih _ {w with heap:=w.heap.push o} _ _ h
 |shape r k ih=>intro w w' x h;simp only[Sem.run]at h;exact ih _ _ _ _ h
 |freeze a n k ih=>intro w w' x h;simp only[Sem.run]at h;exact AU (Nat.le_of_eq (A7v w a n).symm) (ih (w.freeze a n) _ _ h)
 |frozen a k ih=>intro w w' x h;simp only[Sem.run]at h;exact ih _ _ _ _ h
 |getObj r k ih=>
  intro w w' x h;simp only[Sem.run]at h;split at h
  .cases h
  .exact ih _ _ _ _ h
  .cases h
 |setObj r o k ih=>
  intro w w' x h;simp only[Sem.run]at h;split at h
  .cases h
  .exact ih {w with heap:=w.heap.setIfInBounds r o} _ _ h
  .cases h
 |choose q k ih=>
  intro w w' x h;simp only[Sem.run]at h;split at h
  .exact ih _ _ _ _ h
  .exact AU (Nat.le_succ _) (ih _ {w with drawn:=w.drawn+1} _ _ h)
 |sys c k ih=>intro w w' x h;simp only[Sem.run]at h;exact AU (A7s w c) (ih _ _ _ _ h)
 |program k ih=>intro w w' x h;simp only[Sem.run]at h;exact ih _ _ _ _ h
 |mark m k ih=>intro w w' x h;simp only[Sem.run]at h;exact ih _ _ _ h
 |halt hh=>intro w w' x h;simp only[Sem.run]at h;cases h
inductive Ty where
 |unit
 |bool
 |int (k:IntKind)
 |str
 |slice (e:Ty)
 |agg (t:Ty)
 |prod (a b:Ty)
 |arr (n:Nat) (e:Ty)
 |ptr (e:Ty)
 |map (k v:Ty)
 |inil
 |ialt (id:Nat) (t r:Ty)
 |self
 |opq
 |fnc (d c:Ty)
 deriving Inhabited
abbrev DW:=List UInt8
def Ty.T:Ty->Type
 | .unit=>Unit
 | .bool=>Bool
 | .int _=>Int
 | .str=>List UInt8
 | .slice e=>List e.T
 | .agg t=>t.T
 | .prod a b=>a.T×b.T
 | .arr _ e=>List e.T
 | .ptr e=>Option e.T
 | .map k v=>List (k.T×v.T)
 | .inil=>Unit
 | .ialt _ t r=>Sum t.T r.T
 | .self=>Unit
 | .opq=>Unit
 | .fnc d c=>Option (d.T->Option c.T)
def Ty.dflt:(t:Ty)->t.T
 | .unit=>()
 | .bool=>false
 | .int _=>(0:Int)
 | .str=>([]:List UInt8)
 | .slice e=>([]:List e.T)
 | .agg t=>t.dflt
 | .prod a b=>(a.dflt,b.dflt)
 | .arr n e=>List.replicate n e.dflt
 | .ptr e=>(none:Option e.T)
 | .map k v=>([]:List (k.T×v.T))
 | .inil=>()
 | .ialt _ _ r=>Sum.inr r.dflt
 | .self=>()
 | .opq=>()
 | .fnc d c=>(none:Option (d.T->Option c.T))
def L9:IntKind->IntKind->Bool
 | .i8,.i8=>true| .i16,.i16=>true| .i32,.i32=>true| .i64,.i64=>true
 | .u8,.u8=>true| .u16,.u16=>true| .u32,.u32=>true| .u64,.u64=>true
 |_,_=>false
theorem PQ{a b:IntKind}(h:L9 a b=true):a=b:=by
 cases a<;>cases b<;>first|rfl|cases h
def Ty.same:Ty->Ty->Bool
 | .unit,.unit=>true
 | .bool,.bool=>true
 | .int k,.int l=>L9 k l
 | .str,.str=>true
 | .slice a,.slice b=>a.same b
 | .agg a,.agg b=>a.same b
 | .prod a b,.prod c d=>a.same c&&b.same d
 | .arr n a,.arr m b=>Nat.beq n m&&a.same b
 | .ptr a,.ptr b=>a.same b
 | .map a b,.map c d=>a.same c&&b.same d
 | .inil,.inil=>true
 | .self,.self=>true
 | .opq,.opq=>true
 | .fnc a b,.fnc c d=>a.same c&&b.same d
 | .ialt i a b,.ialt j c d=>Nat.beq i j&&(a.same c&&b.same d)
 |_,_=>false
theorem Ty.same_eq:∀{a b:Ty},a.same b=true->a=b:=by
 intro a;induction a with
 |unit=>intro b h;cases b<;>first|rfl|(simp[Ty.same]at h)
 |bool=>intro b h;cases b<;>first|rfl|(simp[Ty.same]at h)
 |int k=>intro b h;cases b<;>first|(simp only[Ty.same]at h;rw[PQ h])|(simp[Ty.same]at h)
 |str=>intro b h;cases b<;>first|rfl|(simp[Ty.same]at h)
 |slice e ih=>intro b h;cases b<;>first|(simp only[Ty.same]at h;rw[ih h])|(simp[Ty.same]at h)
 |agg e ih=>intro b h;cases b<;>first|(simp only[Ty.same]at h;rw[ih h])|(simp[Ty.same]at h)
 |prod x y ihx ihy=>
  intro b h;cases b<;>first|(simp only[Ty.same,A4]at h;rw[ihx h.1,ihy h.2])|(simp[Ty.same]at h)
 |arr n e ih=>
  intro b h;cases b<;>first|(simp only[Ty.same,A4]at h;rw[A2 h.1,ih h.2])|(simp[Ty.same]at h)
 |ptr e ih=>intro b h;cases b<;>first|(simp only[Ty.same]at h;rw[ih h])|(simp[Ty.same]at h)
 |map x y ihx ihy=>
  intro b h;cases b<;>first|(simp only[Ty.same,A4]at h;rw[ihx h.1,ihy h.2])|(simp[Ty.same]at h)
 |inil=>intro b h;cases b<;>first|rfl|(simp[Ty.same]at h)
 |self=>intro b h;cases b<;>first|rfl|(simp[Ty.same]at h)
 |opq=>intro b h;cases b<;>first|rfl|(simp[Ty.same]at h)
 |fnc x y ihx ihy=>
  intro b h;cases b<;>first|(simp only[Ty.same,A4]at h;rw[ihx h.1,ihy h.2])|(simp[Ty.same]at h)
 |ialt i x y ihx ihy=>
  intro b h;cases b<;>first|(simp only[Ty.same,A4]at h;rw[A2 h.1,ihx h.2.1,ihy h.2.2])|(simp[Ty.same]at h)
def Ty.cast? (t u:Ty)(x:t.T):Option u.T:=
 if h:t.same u=true then some (Ty.same_eq h▸x)else none
theorem Ty.cast?_some{t u:Ty}{x:t.T}{y:u.T}(h:Ty.cast? t u x=some y):∃e:t=u,e▸x=y:=by
 unfold Ty.cast? at h;split at h
 .rename_i hs;exact⟨Ty.same_eq hs,A3 h⟩
 .cases h
def Ty.sz:Ty->Nat
 | .unit=>0
 | .agg t=>t.sz
 | .prod a b=>a.sz+b.sz
 | .arr n e=>n*e.sz
 |_=>1
inductive SV where
 |undef
 |val (t:Ty) (x:t.T)
 |nilS
 |nilI
 |nilP
 |nilM
 |nilF
 |pr (a b:SV)
 |obj (k g:Nat)
 |ptr (k:Nat) (p:List Bool) (u:Ty)
 |ptri (k:Nat) (p:List Bool) (i:Nat) (q:List Bool) (u:Ty)
 |elem (k g:Nat) (i:Nat) (q:List Bool) (u:Ty)
 |ref (t:Ty) (x:t.T)
 |fn (f:Nat) (caps:SV)
 |hof (nd:Bool) (dom cod:Ty) (F:dom.T->Option cod.T)
 |nns (e:Ty) (x:List e.T)
 |snil
 |scons (a b:SV)
 |tup (l:SV)
 |grd (toks:List (Nat×Bool)) (g:Bool) (s:SV)
 |slf (k:Nat)
 |bt (t:Ty) (c:SV)
 |rf0 (t:Ty) (x:t.T)
 |lnS (n:Nat)
 deriving Inhabited
def SV.list:SV->List SV
 | .scons a b=>a::b.list
 |_=>[]
def SV.ofList:List SV->SV
 |[]=>.snil
 |a::r=>.scons a (SV.ofList r)
def E4:List Nat->Ty->Ty
 |[],t=>t
 |_::r,t=>.slice (E4 r t)
inductive Obj where
 |box (t:Ty) (c:SV) (w:Bool)
 |sl (id:Nat) (t:Ty) (xs:List t.T) (g:Nat) (w:Bool)
 |mp (k v:Ty) (es:List (k.T×v.T)) (w:Bool)
 |dp (ids:List Nat) (t:Ty) (x:(E4 ids t).T) (gk:Nat) (hole:Option (List Nat)) (w:Bool)
 |kn (f:Nat) (c:SV)
 |kv (t:Ty) (x:t.T)
 |it (a b:Ty) (es:List (a.T×b.T))
 deriving Inhabited
abbrev SSo:=Nat->Option Obj
structure St where
 slots:Nat->SV
 sto:SSo
 n:Nat
inductive Ex where
 |normal
 |exit (id:Nat)
 |ret
def WF(k:IntKind)(n:Int):Bool:=decide (k.min<=n)&&decide (n<=k.max)
def WG:Value->SV
 | .bool b=>.val .bool b
 | .int k n=>bif WF k n then .val (.int k) n else .undef
 | .string s=>bif Nat.ble s.data.toList.length 281474976710656 then .val .str s.data.toList else .undef
 | .slice none 0 0=>.nilS
 | .nilIface=>.nilI
 | .pointer none=>.nilP
 | .map none=>.nilM
 | .nilFunc=>.nilF
 |_=>.undef
def GF(sl:Nat->SV):Operand->SV
 | .tmp t=>sl t
 | .const v=>WG v
 | .func f=>.fn f .snil
 | .global _=>.undef
def Ty.isIface:Ty->Bool
 | .inil=>true
 | .ialt _ _ r=>r.isIface
 |_=>false
def SV.as(t:Ty):SV->Option t.T
 | .val u x=>Ty.cast? u t x
 | .nilS=>match t with| .slice e=>some ([]:List e.T)|_=>none
 | .nilP=>match t with| .ptr e=>some (none:Option e.T)|_=>none
 | .nilI=>if t.isIface=true then some t.dflt else none
 | .nilM=>match t with| .map k v=>some ([]:List (k.T×v.T))|_=>none
 | .nns u x=>Ty.cast? (.slice u) t x
 | .ref u x=>match t with| .ptr e=>(Ty.cast? u e x).map some|_=>none
 |_=>none
def NA(σ:SSo)(k g:Nat)(t:Ty):Option t.T:=
 match σ k with
 |some (.sl _ e xs g' w)=>if Nat.beq g g' && !w then Ty.cast? (.slice e) t xs else none
 |some (.mp a b es w)=>if Nat.beq g 0 && !w then Ty.cast? (.map a b) t es else none
 |some (.dp (i::r) e x _ _ w)=>if Nat.beq g 0 && !w then Ty.cast? (E4 (i::r) e) t x else none
 |_=>none
def SV.asV(σ:SSo)(t:Ty):SV->Option t.T
 | .obj k g=>NA σ k g t
 |s=>s.as t
def JZ(u p:Ty)(x:u.T):Option p.T:=match u,x with
 | .agg q,x=>Ty.cast? q p x
 |u,x=>Ty.cast? u p x
def SV.asL(σ:SSo)(t:Ty):SV->Option t.T
 | .val u x=>JZ u t x
 |s=>s.asV σ t
def KN(u t:Ty)(x:u.T):Option t.T:=match t with
 | .agg p=>match Ty.cast? u (.agg p) x with
  |some y=>some y
  |none=>Ty.cast? u p x
 |t=>JZ u t x
def SV.asC(σ:SSo):(t:Ty)->SV->Option t.T
 | .prod a b=>λs=>match s with
  | .pr x y=>match SV.asC σ a x,SV.asC σ b y with
   |some u,some v=>some (u,v)
   |_,_=>none
  | .val u x=>JZ u (.prod a b) x
  |s=>s.as (.prod a b)
 | .agg p=>λs=>match s with
  | .val u x=>JZ u p x
  |s=>SV.asC σ p s
 | .unit=>SV.asL σ .unit
 | .bool=>SV.asL σ .bool
 | .int k=>SV.asL σ (.int k)
 | .str=>SV.asL σ .str
 | .slice e=>SV.asL σ (.slice e)
 | .arr n e=>SV.asL σ (.arr n e)
 | .ptr e=>SV.asL σ (.ptr e)
 | .map k v=>SV.asL σ (.map k v)
 | .inil=>SV.asL σ .inil
 | .ialt i t r=>SV.asL σ (.ialt i t r)
 | .self=>SV.asL σ .self
 | .opq=>SV.asL σ .opq
 | .fnc d c=>SV.asL σ (.fnc d c)
def SV.halves:SV->Option (SV×SV)
 | .pr a b=>some (a,b)
 | .val (.prod a b) x=>some (.val a x.1,.val b x.2)
 | .val (.agg (.prod a b)) x=>some (.val a (Prod.fst x),.val b (Prod.snd x))
 |_=>none
def SV.getAt:SV->List Bool->Option SV
 |s,[]=>some s
 |s,b::r=>match s.halves with
  |some (x,y)=>(bif b then y else x).getAt r
  |none=>none
def SV.setAt:SV->List Bool->SV->Option SV
 |_,[],v=>some v
 |s,b::r,v=>match s.halves with
  |some (x,y)=>bif b then(y.setAt r v).map (.pr x ·)else(x.setAt r v).map (.pr · y)
  |none=>none
def Ty.at:(t:Ty)->List Bool->t.T->Option ((u:Ty)×u.T)
 |t,[],x=>some ⟨t,x⟩
 | .prod a b,i::r,x=>bif i then Ty.at b r x.2 else Ty.at a r x.1
 | .agg (.prod a b),i::r,x=>bif i then Ty.at b r (Prod.snd x)else Ty.at a r (Prod.fst x)
 |_,_::_,_=>none
def Ty.put:(t:Ty)->List Bool->t.T->(u:Ty)->u.T->Option t.T
 |t,[],_,u,y=>Ty.cast? u t y
 | .prod a b,i::r,x,u,y=>bif i then(Ty.put b r x.2 u y).map (λz=>(x.1,z))else(Ty.put a r x.1 u y).map (λz=>(z,x.2))
 | .agg (.prod a b),i::r,x,u,y=>
  bif i then(Ty.put b r (Prod.snd x) u y).map (λz=>((Prod.fst x:a.T),z))else(Ty.put a r (Prod.fst x) u y).map (λz=>(z,(Prod.snd x:b.T)))
 |_,_::_,_,_,_=>none
def G4:(n f:Nat)->List Bool
 |0,_=>[]
 |1,_=>[]
 |_+2,0=>[false]
 |n+2,f+1=>true::G4 (n+1) f
def Ty.off:Ty->List Bool->Option Nat
 |_,[]=>some 0
 | .prod a b,i::r=>bif i then(b.off r).map (a.sz + ·)else a.off r
 | .agg p,i::r=>Ty.off p (i::r)
 |_,_::_=>none
def Ty.sub:Ty->List Bool->Option Ty
 |t,[]=>some t
 | .prod a b,i::r=>bif i then b.sub r else a.sub r
 | .agg p,i::r=>Ty.sub p (i::r)
 |_,_::_=>none
def Ty.bare:Ty->Ty
 | .agg t=>t
 |t=>t
def Ty.fields:Ty->Nat
 | .prod _ b=>b.fields+1
 | .unit=>0
 |_=>1
inductive Sh where
 |val (t:Ty)
 |own (id:Nat) (t:Ty) (w:Bool)
 |io (id:Nat) (t:Ty)
 |omap (k v:Ty)
 |box (c:Sh)
 |pr (a b:Sh)
 |hof (nd:Bool) (d c:Ty)
 |fn (f:Nat)
 |nilS
 |nns (e:Ty)
 |any
 |bld (el:Nat) (c:Bool)
 |tr (s:Sh)
 |dp (ids:List Nat) (t:Ty)
 |fz (t:Ty)
 |kz (t:Ty)
 |it (k v:Ty)
 deriving Inhabited
def GG:Ty:=.prod .self (.slice (.int .u8))
def Sh.T:Sh->Type
 | .val t=>t.T
 | .own _ t _=>List t.T
 | .io _ t=>List t.T
 | .omap k v=>List (k.T×v.T)
 | .box c=>c.T
 | .pr a b=>a.T×b.T
 | .hof _ d c=>d.T->Option c.T
 | .fn _=>Unit
 | .nilS=>Unit
 | .nns e=>List e.T
 | .any=>Unit
 | .bld _ _=>List Int
 | .tr s=>s.T
 | .dp ids t=>(E4 ids t).T
 | .fz t=>t.T
 | .kz t=>t.T
 | .it k v=>List (k.T×v.T)
def Sh.ty:Sh->Ty
 | .val t=>t
 | .own _ t _=>.slice t
 | .io _ t=>.slice t
 | .omap k v=>.map k v
 | .box c=>.ptr c.ty
 | .pr a b=>.prod a.ty b.ty
 | .hof _ _ _=>.bool
 | .fn _=>.bool
 | .nilS=>.slice .bool
 | .nns e=>.slice e
 | .any=>.bool
 | .bld _ _=>.ptr GG
 | .tr s=>.agg s.ty
 | .dp ids t=>E4 ids t
 | .fz t=>t
 | .kz t=>.ptr t
 | .it _ _=>.bool
def TupR:List Sh->Type
 |[]=>Unit
 |[a]=>a.T
 |a::b::r=>a.T×TupR (b::r)
def EU:Sh->Bool
 | .box _=>true
 | .io _ _=>true
 | .bld _ c=>!c
 |_=>false
def Sh.dflt:(s:Sh)->s.T
 | .val t=>t.dflt
 | .own _ t _=>([]:List t.T)
 | .io _ t=>([]:List t.T)
 | .omap k v=>([]:List (k.T×v.T))
 | .box c=>c.dflt
 | .pr a b=>(a.dflt,b.dflt)
 | .hof _ _ _=>λ_=>none
 | .fn _=>()
 | .nilS=>()
 | .nns e=>([]:List e.T)
 | .any=>()
 | .bld _ _=>([]:List Int)
 | .tr s=>s.dflt
 | .dp ids t=>(E4 ids t).dflt
 | .fz t=>t.dflt
 | .kz t=>t.dflt
 | .it k v=>([]:List (k.T×v.T))
def TupR.dflt:(l:List Sh)->TupR l
 |[]=>()
 |[a]=>a.dflt
 |a::b::r=>(a.dflt,TupR.dflt (b::r))
def PR:List Sh->Bool
 |[]=>true
 | .val _::r=>PR r
 |_=>false
structure FSpec where
 ps:List Sh
 rs:List Sh
 F:TupR ps->Option (TupR (rs++ps.filter EU))
 dr:Bool
structure Kp where
 tm:List Nat
 sh:List Sh
def GN:List (Ex×Kp)->Type
 |[]=>Empty
 |[o]=>TupR o.2.sh
 |o::p::r=>Sum (TupR o.2.sh) (GN (p::r))
structure NdS(inn:Kp)(outs:List (Ex×Kp)) where
 ok:Ty
 ov:Ty
 S:TupR inn.sh->List (ok.T×ov.T)->Prop
 F:TupR inn.sh->List (ok.T×ov.T)->Option (GN outs)
structure Kn where
 p:Nat
 bx:Bool
 f:Nat
 caps:List Nat
structure KX where
 m:Nat
 kn:List Kn
structure KSpec where
 sp:FSpec
 n:Nat
 kx:KX
structure CSpec where
 inn:Kp
 outs:List (Ex×Kp)
 wrs:List Nat
 F:TupR inn.sh->Option (GN outs)
 al:List (Nat×Nat):=[]
 nd:Option (NdS inn outs):=none
 kx:Option KX:=none
open Classical in
noncomputable def NB{α Ω:Type}(S:α->Prop)(g:α->Option Ω):Option Ω:=
 if h:∃ω,∀o,S o->g o=some ω then some (Classical.choose h)else none
theorem A7w{α Ω:Type}{S:α->Prop}{g:α->Option Ω}{ω:Ω}(h:NB S g=some ω):∀o,S o->g o=some ω:=by
 unfold NB at h;split at h
 .rename_i hh;intro o ho;rw[<-h];exact Classical.choose_spec hh o ho
 .cases h
theorem sM{α Ω:Type}{S:α->Prop}{g:α->Option Ω}{ω:Ω}(hne:∃o,S o)(h:∀o,S o->g o=some ω):NB S g=some ω:=by
 have hh:∃ω,∀o,S o->g o=some ω:=⟨ω,h⟩;unfold NB;rw[dif_pos hh];obtain⟨o,ho⟩:=hne;rw[<-Classical.choose_spec hh o ho,h o ho]
structure Env where
 ty:Nat->Option Ty
 fs:Nat->Option FSpec
 cut:Nat->Option CSpec
 wr:Nat->Bool
 el:Nat->Nat
 mt:String->Nat->Option Nat
 eq:Nat->Bool
 dr:Bool
 dp:Nat->Nat:=λ_=>0
 ky:Nat->Nat:=λ_=>0
 ks:Nat->Option KSpec:=λ_=>none
def J_:Ty->Bool
 | .prod _ _=>true
 |_=>false
def O2:(rs:List Sh)->(c:Ty)->TupR rs->Option c.T
 |[.val t],c,y=>bif J_ c then none else Ty.cast? t c y
 | .val t::b::r,.prod p q,y=>match Ty.cast? t p y.1,O2 (b::r) q y.2 with
  |some u,some v=>some (u,v)
  |_,_=>none
 |_,_,_=>none
def fH:(c:Ty)->c.T->SV
 | .prod a b,y=>.scons (.val a y.1) (fH b y.2)
 |t,y=>.scons (.val t y) .snil
def fI:(c:Ty)->c.T->SV
 | .prod a b,y=>.tup (fH (.prod a b) y)
 |t,y=>.val t y
def sN(d' c' d c:Ty)(F:d'.T->Option c'.T):Option (d.T->Option c.T):=
 if h:d'.same d=true then(if h':c'.same c=true then some (Ty.same_eq h▸Ty.same_eq h'▸F)else none)else none
def NC(σ:SSo)(s:SV):SV:=match s with
 | .ptr k p u=>match σ k with
  |some (.box _ c false)=>match c.getAt p with
   |some x=>match x.asC σ u with
    |some y=>.ref u y
    |none=>.ptr k p u
   |none=>.ptr k p u
  | some (.kv e x)=>(match p with
   |[]=>.ref e x
   |_=>.ptr k p u)
  |_=>.ptr k p u
 |s=>s
def K0:SV->Bool
 | .snil=>true
 | .scons _ b=>K0 b
 |_=>false
def fJ(e u:Ty)(x:u.T):Option e.T:=match Ty.cast? u e x with
 |some y=>some y
 |none=>Ty.cast? (.agg u) e x
def WH(u:Ty)(x:u.T):(t:Ty)->Option t.T
 | .ptr e=>(fJ e u x).map some
 |_=>none
def sO(σ:SSo)(t:Ty):SV->Option t.T
 | .ref u x=>WH u x t
 | .rf0 u x=>WH u x t
 |s=>s.asV σ t
def PS(σ:SSo)(t:Ty)(s:SV):Option t.T:=sO σ t (NC σ s)
def O3:(a:Sh)->(r:List Sh)->a.T->TupR r->TupR (a::r)
 |_,[],x,_=>x
 |_,_::_,x,y=>(x,y)
def SE(σ:SSo):(l:List Sh)->List SV->Option (TupR l)
 |[],[]=>some ()
 | .val t::r,s::w=>match PS σ t s,SE σ r w with
  |some x,some y=>some (O3 (.val t) r x y)
  |_,_=>none
 |_,_=>none
def SF(σ:SSo)(cs:List SV):Nat->(ps:List Sh)->(d:Ty)->d.T->Option (TupR ps)
 |0,.val t::r,d,x=>bif J_ d then none else match Ty.cast? d t x,SE σ r cs with
  |some u,some v=>some (O3 (.val t) r u v)
  |_,_=>none
 |n+1,.val t::r,.prod p q,x=>match Ty.cast? p t x.1,SF σ cs n r q x.2 with
  |some u,some v=>some (O3 (.val t) r u v)
  |_,_=>none
 |_,_,_,_=>none
def SG:Ty->Nat
 | .prod _ q=>SG q+1
 |_=>0
def sP(σ:Nat→Option Obj)(n:Nat)(ps:List Sh)(cs:List SV):Bool:=(SE σ (ps.drop (n+1)) cs).isSome
def SH(nd:Bool)(fs:Nat->Option FSpec)(σ:SSo)(d c:Ty):SV->Option (d.T->Option c.T)
 | .hof nd' d' c' F=>bif !nd||nd' then sN d' c' d c F else none
 | .fn f caps=>match fs f with
  |some sp=>bif K0 caps&&PR sp.ps&&(!nd||sp.dr)&&sP σ (SG d) sp.ps caps.list then some (λx=>(SF σ caps.list (SG d) sp.ps d x).bind λv=>(sp.F v).bind λr=>O2 _ c r)else none
  |_=>none
 |_=>none
def JJ(σ:SSo)(id:Nat)(t:Ty)(w:Bool):SV->Option (List t.T)
 | .obj k g=>match σ k with
  |some (.sl id' t' xs g' w')=>if Nat.beq g 0&&Nat.beq g g'&&(Nat.beq id id'&&(bif w then w' else !w'))then Ty.cast? (.slice t') (.slice t) xs else none
  |_=>none
 | .nilS=>some ([]:List t.T)
 |_=>none
def SI(σ:SSo)(k v:Ty):SV->Option (List (k.T×v.T))
 | .obj j g=>match σ j with
  |some (.mp k' v' es w)=>if Nat.beq g 0&&w then Ty.cast? (.map k' v') (.map k v) es else none
  |_=>none
 |_=>none
def WI(σ:SSo)(k v:Ty):SV->Option (List (k.T×v.T))
 | .obj j g=>match σ j with
  |some (.it k' v' es)=>if Nat.beq g 0 then Ty.cast? (.map k' v') (.map k v) es else none
  |_=>none
 |_=>none
def MH:List Nat->List Nat->Bool
 |[],[]=>true
 |a::r,b::s=>Nat.beq a b&&MH r s
 |_,_=>false
def K1(σ:SSo)(ids:List Nat)(t:Ty):SV->Option (E4 ids t).T
 | .obj k g=>match σ k with
  |some (.dp ids' t' x _ none true)=>bif Nat.beq g 0&&MH ids' ids then Ty.cast? (E4 ids' t') (E4 ids t) x else none
  |some (.sl id' t' xs g' true)=>bif Nat.beq g 0&&(Nat.beq g' 0&&MH [id'] ids)then Ty.cast? (.slice t') (E4 ids t) xs else none
  |_=>none
 | .nilS=>match ids with
  |[]=>none
  |_::r=>some ([]:List (E4 r t).T)
 |_=>none
def SJ(f:Nat):SV->Option Unit
 | .fn g .snil=>if Nat.beq f g then some ()else none
 |_=>none
def WJ(e:Ty):SV->Option (List e.T)
 | .nns u x=>Ty.cast? (.slice u) (.slice e) x
 |_=>none
def SK:SV->Option Unit
 | .nilS=>some ()
 |_=>none
def MI(σ:SSo):(s:Sh)->SV->Option s.T
 | .val t,v=>v.asC σ t
 | .own id t w,v=>JJ σ id t w v
 | .io id t,v=>JJ σ id t true v
 | .omap a b,v=>SI σ a b v
 | .pr a b,v=>match v.halves with
  |some (x,y)=>match MI σ a x,MI σ b y with
   |some u,some w=>some (u,w)
   |_,_=>none
  |none=>none
 | .fn f,v=>SJ f v
 | .nilS,v=>SK v
 | .nns e,v=>WJ e v
 | .box _,_=>none
 | .hof _ _ _,_=>none
 | .any,_=>none
 | .bld _ _,_=>none
 | .tr _,_=>none
 | .dp ids t,v=>K1 σ ids t v
 | .fz _,_=>none
 | .kz _,_=>none
 | .it _ _,_=>none
def WK:Sh->Bool
 | .pr _ _=>true
 |_=>false
def sQ(σ:SSo)(s:Sh):SV->Option s.T
 | .bt u c=>bif WK s&&u.same (.agg s.ty)then MI σ s c else none
 |_=>none
def WL(k:Nat):SV->Bool
 | .val t _=>t.same .self
 | .slf j=>Nat.beq j k
 | .ptr j [] _=>Nat.beq j k
 |_=>false
def PT(σ:SSo)(el:Nat):SV->Option (List Int)
 | .ptr k [] _=>match σ k with
  | some (.box t c true)=>bif t.same GG then (match c with
   | .pr x y=>bif WL k x then JJ σ el (.int .u8) true y else none
   |_=>none)else none
  |_=>none
 |_=>none
def PU(σ:SSo)(c:Sh):SV->Option c.T
 | .ptr k [] _=>match σ k with
  |some (.box t v true)=>if t.same c.ty=true then MI σ c v else none
  |_=>none
 |_=>none
def WM(σ:SSo)(t:Ty):SV->Option t.T
 | .ptr k [] _=>match σ k with
  |some (.kv u x)=>Ty.cast? u t x
  |some (.box u c false)=>bif u.same t then c.asC σ t else none
  |_=>none
 |_=>none
def PV(fs:Nat->Option FSpec)(σ:SSo):(s:Sh)->SV->Option s.T
 | .val t,v=>v.asV σ t
 | .box c,v=>PU σ c v
 | .hof nd d c,v=>SH nd fs σ d c v
 | .own id t w,v=>JJ σ id t w v
 | .io id t,v=>JJ σ id t true v
 | .omap a b,v=>SI σ a b v
 | .fn f,v=>SJ f v
 | .nilS,v=>SK v
 | .nns e,v=>WJ e v
 | .pr _ _,_=>none
 | .any,_=>some ()
 | .bld el _,v=>PT σ el v
 | .tr s,v=>sQ σ s v
 | .dp ids t,v=>K1 σ ids t v
 | .fz t,v=>PS σ t v
 | .kz t,v=>WM σ t v
 | .it a b,v=>WI σ a b v
def FC:SV->List Nat
 | .obj k _=>[k]
 |_=>[]
def O4:(s:Sh)->SV->List Nat
 | .own _ _ _,v=>FC v
 | .io _ _,v=>FC v
 | .omap _ _,v=>FC v
 | .dp _ _,v=>FC v
 | .pr a b,v=>match v.halves with
  |some (x,y)=>O4 a x++O4 b y
  |none=>[]
 |_,_=>[]
def WN(σ:SSo)(c:Sh):SV->List Nat
 | .ptr k _ _=>k::(match σ k with
  |some (.box _ v _)=>O4 c v
  |_=>[])
 |_=>[]
def WO(σ:SSo):SV->List Nat
 | .ptr k _ _=>k::(match σ k with
  |some (.box _ (.pr _ y) _)=>FC y
  |_=>[])
 |_=>[]
def ND(σ:SSo):(s:Sh)->SV->List Nat
 | .own _ _ _,v=>FC v
 | .it _ _,v=>FC v
 | .io _ _,v=>FC v
 | .omap _ _,v=>FC v
 | .dp _ _,v=>FC v
 | .box c,v=>WN σ c v
 | .bld _ _,v=>WO σ v
 | .tr s,.bt _ c=>O4 s c
 |_,_=>[]
def G5(σ:SSo):List Sh->List SV->List Nat
 |a::l,v::vs=>ND σ a v++G5 σ l vs
 |_,_=>[]
def EV(k:Nat):List Nat->Bool
 |[]=>false
 |j::r=>Nat.beq k j||EV k r
def J5:List Nat->Bool
 |[]=>true
 |k::r=>!(EV k r)&&J5 r
def LW(fs:Nat->Option FSpec)(σ:SSo):(l:List Sh)->List SV->Option (TupR l)
 |[],[]=>some ()
 |[a],[v]=>PV fs σ a v
 |a::b::r,v::w=>match PV fs σ a v,LW fs σ (b::r) w with
  |some x,some y=>some (x,y)
  |_,_=>none
 |_,_=>none
structure Mk where
 sv:SV
 obs:List (Nat×Option Obj)
 nx:Nat
def F7:(s:Sh)->s.T->Nat->Mk
 | .val t,x,n=>⟨.val t x,[],n⟩
 | .own id t w,xs,n=>⟨.obj n 0,[(n,some (.sl id t xs 0 w))],n+1⟩
 | .io id t,xs,n=>⟨.obj n 0,[(n,some (.sl id t xs 0 true))],n+1⟩
 | .omap k v,es,n=>⟨.obj n 0,[(n,some (.mp k v es true))],n+1⟩
 | .pr a b,x,n=>
  let u:=F7 a x.1 n
  let v:=F7 b x.2 u.nx
  ⟨.pr u.sv v.sv,u.obs++v.obs,v.nx⟩
 | .box c,x,n=>
  let u:=F7 c x (n+1)
  ⟨.ptr n [] c.ty,(n,some (.box c.ty u.sv true))::u.obs,u.nx⟩
 | .hof nd d c,F,n=>⟨.hof nd d c F,[],n⟩
 | .fn f,_,n=>⟨.fn f .snil,[],n⟩
 | .nilS,_,n=>⟨.nilS,[],n⟩
 | .nns e,x,n=>⟨.nns e x,[],n⟩
 | .any,_,n=>⟨.undef,[],n⟩
 | .bld el _,xs,n=>⟨.ptr n [] GG,[(n,some (.box GG (.pr (.slf n) (.obj (n+1) 0)) true)),(n+1,some (.sl el (.int .u8) xs 0 true))],n+2⟩
 | .tr s,x,n=>⟨.bt (.agg s.ty) (F7 s x n).sv,(F7 s x n).obs,(F7 s x n).nx⟩
 | .fz t,x,n=>⟨.val t x,[],n⟩
 | .kz t,x,n=>⟨.ptr n [] t,[(n,some (.kv t x))],n+1⟩
 | .it _ _,_,n=>⟨.undef,[],n⟩
 | .dp ids t,x,n=>⟨.obj n 0,[(n,some (.dp ids t x (n+1) none true))],n+2⟩
def F5:(l:List Sh)->TupR l->Nat->List Mk
 |[],_,_=>[]
 |[a],x,n=>[F7 a x n]
 |a::b::r,x,n=>F7 a x.1 n::F5 (b::r) x.2 (F7 a x.1 n).nx
def Sh.cnt:Sh->Nat
 | .own _ _ _=>1
 | .io _ _=>1
 | .omap _ _=>1
 | .pr a b=>a.cnt+b.cnt
 | .box c=>c.cnt+1
 | .bld _ _=>2
 | .tr s=>s.cnt
 | .dp _ _=>2
 | .kz _=>1
 |_=>0
def FM:List Sh->Nat
 |[]=>0
 |a::r=>a.cnt+FM r
def KO(l:List Mk)(n:Nat):Nat:=match l with
 |[]=>n
 |m::r=>KO r m.nx
def FG{α:Type}(l:List (Nat×α))(i:Nat):Option α:=match l with
 |[]=>none
 |(j,x)::r=>bif Nat.beq i j then some x else FG r i
def JK(tm:List Nat)(l:List SV)(i:Nat):SV:=match tm,l with
 |t::tm,s::l=>bif Nat.beq i t then s else JK tm l i
 |_,_=>.undef
def H9(k:Kp)(x:TupR k.sh):St:=
 let l:=F5 k.sh x 0
 let obs:=l.flatMap (·.obs)
 {slots:=JK k.tm (l.map (·.sv)),sto:=λi=>(FG obs i).getD none,n:=KO l 0}
def J6(fs:Nat->Option FSpec)(σ:SSo)(l:List Sh)(vs:List SV):Option (TupR l):=
 bif J5 (G5 σ l vs)then LW fs σ l vs else none
def sR:SV->SV->Bool
 | .obj k g,.obj j h=>Nat.beq k j&&Nat.beq g h
 |_,_=>false
def NE:SV->SV->Bool
 | .ptr k [] _,.ptr j [] _=>Nat.beq k j
 |_,_=>false
def sS(sl:Nat->SV)(t c:Nat):Bool:=bif Nat.blt c 1048576 then sR (sl t) (sl c)else match sl t with
 | .fn f (.scons s .snil)=>Nat.beq f (c / 1048576-1)&&NE s (sl (c % 1048576))
 |_=>false
def MJ:List (Nat×Nat)->(Nat->SV)->Bool
 |[],_=>true
 |p::r,sl=>sS sl p.1 p.2&&MJ r sl
def O5(sl:Nat->SV)(c:Nat):SV:=bif Nat.blt c 1048576 then sl c else .fn (c / 1048576-1) (.scons (sl (c % 1048576)) .snil)
def SL(al:List (Nat×Nat))(sl:Nat->SV)(t:Nat):SV:=match FG al t with
 |some j=>O5 sl j
 |none=>sl t
def PW(al:List (Nat×Nat))(k:Kp)(x:TupR k.sh):St:={slots:=SL al (H9 k x).slots,sto:=(H9 k x).sto,n:=(H9 k x).n}
def LX(fs:Nat->Option FSpec)(k:Kp)(st:St):Option (TupR k.sh):=J6 fs st.sto k.sh (k.tm.map st.slots)
def gone:List Nat->List (Nat×Option Obj)
 |[]=>[]
 |k::r=>(k,none)::gone r
def EK(σ:SSo):List (Nat×Option Obj)->SSo
 |[]=>σ
 |(k,o)::r=>λi=>bif Nat.beq i k then o else EK σ r i
def HN:Obj->Obj
 | .sl id t xs g _=>.sl id t xs g false
 | .mp k v es _=>.mp k v es false
 | .box t c _=>.box t c false
 | .dp ids t x gk h w=>.dp ids t x gk h (match h with|none=>false|some _=>w)
 | .kn f c=>.kn f c
 | .kv t x=>.kv t x
 | .it a b es=>.it a b es
def LA(σ:SSo):List Nat->List (Nat×Option Obj)
 |[]=>[]
 |k::r=>match σ k with
  |some o=>(k,some (HN o))::LA σ r
  |none=>LA σ r
def A7x:Obj->Bool
 | .sl _ _ _ _ w=>w
 | .mp _ _ _ w=>w
 | .box _ _ w=>w
 | .dp _ _ _ _ h w=>w&&h.isNone
 | .kn _ _=>false
 | .kv _ _=>false
 | .it _ _ _=>false
def hk(σ:SSo):SV->List Nat
 | .obj k _=>match σ k with
  |some o=>bif A7x o then [k]else []
  |none=>[]
 |_=>[]
def SM(σ:SSo):SV->List Nat
 | .pr a b=>SM σ a++SM σ b
 |s=>hk σ s
def WP(σ:SSo):Sh->SV->List Nat
 | .val _,v=>SM σ v
 | .pr a b,.pr x y=>WP σ a x++WP σ b y
 |_,_=>[]
def SN(σ:SSo):SV->List Nat
 | .ptr k _ _=>match σ k with
  |some (.box _ c true)=>k::SM σ c
  |_=>[]
 |s=>hk σ s
def A7y(σ:SSo):Sh->SV->List Nat
 | .val _,v=>hk σ v
 | .fz _,v=>SN σ v
 | .kz _,v=>SN σ v
 | .hof _ _ _,.fn _ caps=>caps.list.flatMap (SN σ)
 | .tr s,.bt _ c=>WP σ s c
 | .box c,.ptr k _ _=>match σ k with
  |some (.box _ v _)=>WP σ c v
  |_=>[]
 |_,_=>[]
def fK(σ:SSo):List Sh->List SV->List Nat
 | .val _::l,v::vs=>hk σ v++fK σ l vs
 |_::l,_::vs=>fK σ l vs
 |_,_=>[]
def WQ(σ:SSo):List Sh->List SV->List Nat
 |s::l,v::vs=>A7y σ s v++WQ σ l vs
 |_,_=>[]
def LY(σ:SSo)(l:List Sh)(vs:List SV):SSo:=EK σ (LA σ (WQ σ l vs))
def IR(k:Kp)(st:St):St:={slots:=st.slots,sto:=LY st.sto k.sh (k.tm.map st.slots),n:=st.n}
def PX(st:St)(wrs ks:List Nat)(k:Kp)(y:TupR k.sh):St:=
 let l:=F5 k.sh y st.n
 { slots:=λt=>bif EV t k.tm then JK k.tm (l.map (·.sv)) t else bif EV t wrs then .undef else st.slots t,
   sto:=EK st.sto (l.flatMap (·.obs)++gone ks),n:=st.n+FM k.sh}
def fL(c:Nat):Nat:=bif Nat.blt c 1048576 then c else c % 1048576
def PY(al:List (Nat×Nat))(wrs:List Nat)(sl:Nat->SV)(t:Nat):SV:=match FG al t with
 |some c=>bif EV t wrs||EV (fL c) wrs then sl t else O5 sl c
 |none=>sl t
def SO(al:List (Nat×Nat))(wrs:List Nat)(st:St):St:=match al with
 |[]=>st
 |al=>{slots:=PY al wrs st.slots,sto:=st.sto,n:=st.n}
def SP{Ω:Type}(st:St)(wrs ks:List Nat):(l:List (Ex×Kp))->GN l->(Ex->St->Option Ω)->Option Ω
 |[],x,_=>Empty.elim x
 |[o],x,K=>K o.1 (PX st wrs ks o.2 x)
 |o::p::r,x,K=>Sum.casesOn (motive:=λ_=>Option Ω) x (λy=>K o.1 (PX st wrs ks o.2 y)) (λy=>SP st wrs ks (p::r) y K)
def WR(lax:Bool)(σ:SSo)(bx:Bool)(s:SV):Option (Nat×SV):=match bx with
 | false=>(match s with
  | .fn f c=>some (f,c)
  |_=>none)
 | true=>(match s with
  | .ptr k [] _=>(match σ k with
   |some (.box _ (.fn f c) w)=>bif lax|| !w then some (f,c)else none
   |some (.kn f c)=>some (f,c)
   |_=>none)
  |_=>none)
def SQ:List Nat->List SV->List (Nat×SV)->Option (List (Nat×SV))
 |[],[],l=>some l
 |c::r,s::t,l=>bif Nat.blt c 1000000 then SQ r t l else SQ r t ((c-1000000,s)::l)
 |_,_,_=>none
def WS(σ:SSo)(sl:Nat->SV):List Kn->List (Nat×SV)->Option (List (Nat×SV))
 |[],l=>some l
 |q::r,l=>match WR false σ q.bx (sl q.p)with
  | some (_,c)=>bif K0 c then (match SQ q.caps c.list l with
   |some l'=>WS σ sl r l'
   |none=>none)else none
  |none=>none
def SS(l:List (Nat×SV)):List Nat->Option (List SV)
 |[]=>some []
 |j::r=>match FG l j,SS l r with
  |some s,some t=>some (s::t)
  |_,_=>none
def fM(σ:SSo)(sl:Nat->SV)(x:KX):Option (List SV):=match WS σ sl x.kn []with
 |some l=>SS l (List.range x.m)
 |none=>none
def PZ(sl:Nat->SV):List Nat->List SV->List (Nat×SV)->Option (List (Nat×SV))
 |[],[],l=>some l
 |c::r,s::t,l=>bif Nat.blt c 1000000 then(bif NE (sl c) s then PZ sl r t l else none)
  else (match FG l (c-1000000) with
   |some u=>bif NE u s then PZ sl r t l else none
   |none=>PZ sl r t ((c-1000000,s)::l))
 |_,_,_=>none
def ST(lax:Bool)(σ:SSo)(sl:Nat->SV):List Kn->List (Nat×SV)->Option (List (Nat×SV))
 |[],l=>some l
 |q::r,l=>match WR lax σ q.bx (sl q.p)with
  | some (f,c)=>bif Nat.beq f q.f&&K0 c then (match PZ sl q.caps c.list l with
   |some l'=>ST lax σ sl r l'
   |none=>none)else none
  |none=>none
def fN(x:KX):Bool:=x.kn.all λq=>q.caps.all λc=>Nat.blt c (1000000+x.m)
def SU(lax:Bool)(σ:Nat→Option Obj)(sl:Nat→SV)(x:KX):Option (List SV):=match bif fN x then ST lax σ sl x.kn []else none with
 |some l=>SS l (List.range x.m)
 |none=>none
def sU(σ:SSo)(args:List SV):List Kn->List Nat
 |[]=>[]
 |q::r=>(bif q.bx then SN σ (args.getD q.p .undef)else [])++sU σ args r
def frzX(σ:SSo)(s:KSpec)(args:List SV):List Nat:=sU σ args s.kx.kn++(match SU true σ (λt=>args.getD t .undef) s.kx with
 |some ps=>WQ σ s.sp.ps (args++ps)
 |none=>[])
def GO:List Kn->Nat->List (Nat×Nat)
 |[],_=>[]
 |q::r,n=>bif q.bx then(q.p,n)::GO r (n+1)else GO r n
def SW(tm:List Nat)(svs:List SV)(ky:List (Nat×Nat))(c:Nat):SV:=bif Nat.blt c 1000000 then(match FG ky c with
 |some k=>.ptr k [] .bool
 |none=>JK tm svs c)else(svs.drop tm.length).getD (c-1000000) .undef
def P_(tm:List Nat)(svs:List SV)(ky:List (Nat×Nat))(q:Kn):SV:=SV.ofList (q.caps.map (SW tm svs ky))
def K2(tm:List Nat)(svs:List SV)(ky:List (Nat×Nat)):List Kn->Nat->List (Nat×Option Obj)
 |[],_=>[]
 |q::r,n=>bif q.bx then(n,some (.kn q.f (P_ tm svs ky q)))::K2 tm svs ky r (n+1)else K2 tm svs ky r n
def Q0(tm:List Nat)(svs:List SV)(ky:List (Nat×Nat)):List Kn->Nat->Option SV
 |[],_=>none
 |q::r,t=>bif Nat.beq t q.p then some (bif q.bx then SW tm svs ky q.p else .fn q.f (P_ tm svs ky q))else Q0 tm svs ky r t
def fO(tm:List Nat)(svs:List SV)(ky:List (Nat×Nat))(kn:List Kn)(t:Nat):SV:=match Q0 tm svs ky kn t with
 |some s=>s
 |none=>JK tm svs t
def QA(k:Kp)(x:KX)(v:TupR k.sh):St:=
 let l:=F5 k.sh v 0
 let n1:=KO l 0
 let svs:=l.map (·.sv)
 let ky:=GO x.kn n1
 {slots:=fO k.tm svs ky x.kn,sto:=λi=>(FG (K2 k.tm svs ky x.kn n1++l.flatMap (·.obs)) i).getD none,n:=n1+ky.length}
def QB(st:St)(wrs ks:List Nat)(x:KX)(k:Kp)(y:TupR k.sh):St:=
 let l:=F5 k.sh y st.n
 let n1:=st.n+FM k.sh
 let svs:=l.map (·.sv)
 let ky:=GO x.kn n1
 {slots:=λt=>(match Q0 k.tm svs ky x.kn t with|some s=>s|none=>bif EV t k.tm then JK k.tm svs t else bif EV t wrs then .undef else st.slots t),sto:=EK st.sto (K2 k.tm svs ky x.kn n1++(l.flatMap (·.obs)++gone ks)),n:=n1+ky.length}
def fP{Ω:Type}(st:St)(wrs ks:List Nat)(x:KX):(l:List (Ex×Kp))->GN l->(Ex->St->Option Ω)->Option Ω
 |[],y,_=>Empty.elim y
 |[o],y,K=>K o.1 (QB st wrs ks x o.2 y)
 |o::p::r,y,K=>Sum.casesOn (motive:=λ_=>Option Ω) y (λy=>K o.1 (QB st wrs ks x o.2 y)) (λy=>fP st wrs ks x (p::r) y K)
def WU(k:Kp)(x:KX)(st:St):Option (List SV):=match SU false st.sto st.slots x with
 |some ps=>some (k.tm.map st.slots++ps)
 |none=>none
def SX(k:Kp)(x:KX)(st:St):Option (List SV):=match fM st.sto st.slots x with
 |some ps=>some (k.tm.map st.slots++ps)
 |none=>none
def fQ(k:Kp)(vs:List SV)(st:St):St:={slots:=st.slots,sto:=LY st.sto k.sh vs,n:=st.n}
def O6(fs:Nat->Option FSpec)(k:Kp)(x:KX)(st:St):Option (TupR k.sh):=match SX k x st with
 |some vs=>J6 fs (LY st.sto k.sh vs) k.sh vs
 |none=>none
def LB(wrs:List Nat):List Kn->Bool
 |[]=>true
 |q::r=>!(EV q.p wrs)&&(q.caps.all λc=>Nat.ble 1000000 c|| !(EV c wrs))&&LB wrs r
def LC(x:KX):Bool:=x.kn.all λq=>Nat.blt q.p 1000000
structure Upd where
 sv:SV
 wr:List (Nat×Option Obj)
inductive OpRes:Type 1 where
 |pure (u:Upd)
 |may (α:Type) (m:Option α) (d:α) (u:α->Upd)
def OpRes.v(s:SV):OpRes:=.pure ⟨s,[]⟩
def at? {α:Type}(l:List α)(i:Int):Option α:=bif decide (0<=i)then l[i.toNat]? else none
def cut? {α:Type}(l:List α)(lo hi:Int):Option (List α):=
 bif decide (0<=lo)&&(decide (lo<=hi)&&decide (hi<=l.length))then some ((l.take hi.toNat).drop lo.toNat)else none
def cat? (a b:DW):Option DW:=bif decide (a.length+b.length<=281474976710656)then some (a++b)else none
def app? {α:Type}(B:Nat)(a b:List α):Option (List α):=bif decide ((a.length+b.length)*B<=70368744177664)then some (a++b)else none
def in? (n:Nat)(i:Int):Option Unit:=bif decide (0<=i)&&decide (i<n)then some ()else none
def div? (k:IntKind)(a b:Int):Option Int:=bif b==0 then none else some (k.wrap (a.tdiv b))
def mod? (a b:Int):Option Int:=bif b==0 then none else some (a.tmod b)
def FV(l:DW):List Int:=l.map λb=>(b.toNat:Int)
def HH(l:List Int):DW:=l.map λn=>UInt8.ofNat n.toNat
def J7(x y:Bool):Bool:=x==y
def E1(x y:Int):Bool:=x==y
def EG(x y:DW):Bool:=x==y
def Ty.beq:(t:Ty)->t.T->t.T->Option Bool
 | .unit,_,_=>some true
 | .bool,x,y=>some (J7 x y)
 | .int _,x,y=>some (E1 x y)
 | .str,x,y=>some (EG x y)
 | .agg t,x,y=>Ty.beq t x y
 | .prod a b,x,y=>match Ty.beq a x.1 y.1,Ty.beq b x.2 y.2 with
  |some u,some v=>some (u&&v)
  |_,_=>none
 |_,_,_=>none
def FQ{α β:Type}(eq:α->α->Bool)(k:α):List (α×β)->Option β
 |[]=>none
 |e::r=>bif eq k e.1 then some e.2 else FQ eq k r
def FH{α β:Type}(eq:α->α->Bool)(k:α)(v:β):List (α×β)->List (α×β)
 |[]=>[(k,v)]
 |e::r=>bif eq k e.1 then(k,v)::r else e::FH eq k v r
def QC:(t:Ty)->Option (t.T->t.T->Bool)
 | .bool=>some J7
 | .int _=>some E1
 | .str=>some EG
 |_=>none
def J8:(t:Ty)->Option (t.T->t.T->Bool)
 | .bool=>some J7
 | .int _=>some E1
 | .str=>some EG
 | .agg p=>J8 p
 | .prod a b=>match J8 a,J8 b with
  |some f,some g=>some λx y=>f x.1 y.1&&g x.2 y.2
  |_,_=>none
 |_=>none
def fR(ke:Bool):(t:Ty)->Option (t.T->t.T->Bool)
 | .agg p=>bif ke then J8 p else none
 | .bool=>some J7
 | .int _=>some E1
 | .str=>some EG
 |_=>none
def KP(k:IntKind)(a b:Int):Int:=k.wrap ((BitVec.ofInt k.bits a &&& BitVec.ofInt k.bits b).toNat:Int)
def HA(k:IntKind)(a b:Int):Int:=k.wrap ((BitVec.ofInt k.bits a|||BitVec.ofInt k.bits b).toNat:Int)
def sV(k:IntKind)(a b:Int):Int:=k.wrap ((BitVec.ofInt k.bits a ^^^ BitVec.ofInt k.bits b).toNat:Int)
def WV(k:IntKind)(a b:Int):Int:=k.wrap ((BitVec.ofInt k.bits a &&& ~~~BitVec.ofInt k.bits b).toNat:Int)
def shl? (k:IntKind)(a b:Int):Option Int:=bif decide (b<0)then none else some (k.wrap (a*2 ^ min b.toNat k.bits))
def shr? (k:IntKind)(a b:Int):Option Int:=bif decide (b<0)then none else some (a.fdiv (2 ^ min b.toNat k.bits))
def fS(op:BinOp)(k:IntKind)(a b:Int):Option OpRes:=
 match op with
 | .add=>some (.v (.val (.int k) (k.wrap (a+b))))
 | .sub=>some (.v (.val (.int k) (k.wrap (a-b))))
 | .mul=>some (.v (.val (.int k) (k.wrap (a*b))))
 | .quo=>some (.may Int (div? k a b) 0 λx=>⟨.val (.int k) x,[]⟩)
 | .rem=>some (.may Int (mod? a b) 0 λx=>⟨.val (.int k) x,[]⟩)
 | .eql=>some (.v (.val .bool (E1 a b)))
 | .neq=>some (.v (.val .bool (!(E1 a b))))
 | .lss=>some (.v (.val .bool (decide (a<b))))
 | .leq=>some (.v (.val .bool (decide (a<=b))))
 | .gtr=>some (.v (.val .bool (decide (b<a))))
 | .geq=>some (.v (.val .bool (decide (b<=a))))
 | .and=>some (.v (.val (.int k) (KP k a b)))
 | .or=>some (.v (.val (.int k) (HA k a b)))
 | .xor=>some (.v (.val (.int k) (sV k a b)))
 | .andNot=>some (.v (.val (.int k) (WV k a b)))
 |_=>none
def fT(op:BinOp)(a b:DW):Option OpRes:=
 match op with
 | .add=>some (.may DW (cat? a b) [] λx=>⟨.val .str x,[]⟩)
 | .eql=>some (.v (.val .bool (EG a b)))
 | .neq=>some (.v (.val .bool (!(EG a b))))
 | .lss=>some (.v (.val .bool (Op.bytesLess a b)))
 | .leq=>some (.v (.val .bool (Op.bytesLess a b||EG a b)))
 | .gtr=>some (.v (.val .bool (!(Op.bytesLess a b||EG a b))))
 | .geq=>some (.v (.val .bool (!(Op.bytesLess a b))))
 |_=>none
def fU(op:BinOp)(x y:Bool):Option OpRes:=
 match op with
 | .eql=>some (.v (.val .bool (J7 x y)))
 | .neq=>some (.v (.val .bool (!(J7 x y))))
 |_=>none
def WW(op:BinOp):SV->SV->Option OpRes
 | .val (.int k) a,.val (.int l) b=>match op with
  | .shl=>some (.may Int (shl? k a b) 0 λx=>⟨.val (.int k) x,[]⟩)
  | .shr=>some (.may Int (shr? k a b) 0 λx=>⟨.val (.int k) x,[]⟩)
  |op=>bif L9 k l then fS op k a b else none
 | .val .str a,.val .str b=>fT op a b
 | .val .bool a,.val .bool b=>fU op a b
 |_,_=>none
def LD(op:BinOp)(b:Bool):Option OpRes:=match op with
 | .eql=>some (.v (.val .bool b))
 | .neq=>some (.v (.val .bool (!b)))
 |_=>none
def fV(op:BinOp)(t:Option Ty)(x y:SV):Option OpRes:=match t with
 |some (.slice _)=>match x,y with
  | .nns _ _,.nilS=>LD op false
  | .nilS,.nilS=>LD op true
  |_,_=>none
 |some (.ptr _)=>match x,y with
  | .val (.ptr e) p,.nilP=>LD op (show Option e.T from p).isNone
  | .ref _ _,.nilP=>LD op false
  | .ptr _ _ _,.nilP=>LD op false
  | .nilP,.nilP=>LD op true
  |_,_=>none
 |_=>none
def sW:Ty->Bool
 | .agg _=>true
 |_=>false
def sX(ty:Option Ty)(ok:Bool)(op:BinOp)(x y:SV):Option OpRes:=match ty with
 | some t=>bif ok&&sW t then (match x.as t,y.as t with
  |some u,some v=>match Ty.beq t u v with
   |some b=>LD op b
   |none=>none
  |_,_=>none)else none
 |none=>none
def fW(op:UnOp):SV->Option OpRes
 | .val .bool b=>match op with| .not=>some (.v (.val .bool (!b)))|_=>none
 | .val (.int k) n=>match op with| .neg=>some (.v (.val (.int k) (k.wrap (0-(show Int from n)))))|_=>none
 |_=>none
def fX:SV->SV->SV->Option OpRes
 | .val .bool c,.val t x,.val u y=>match Ty.cast? u t y with
  |some z=>some (.v (.val t (bif c then x else z)))
  |none=>none
 |_,_,_=>none
def fY(σ:SSo)(p:Ty)(i:Nat)(s:SV)(x:p.T):Option p.T:=
 bif Nat.blt i p.fields then (match p.sub (G4 p.fields i) with
  |some u=>match s.asV σ u with
   |some y=>Ty.put p (G4 p.fields i) x u y
   |none=>none
  |none=>none)else none
def SY(σ:SSo)(p:Ty):List (Nat×SV)->p.T->Option p.T
 |[],x=>some x
 |q::r,x=>match fY σ p q.1 q.2 x with
  |some y=>SY σ p r y
  |none=>none
def NF(σ:SSo)(e:Ty):List (Nat×SV)->List e.T->Option (List e.T)
 |[],xs=>some xs
 | q::r,xs=>bif Nat.blt q.1 xs.length then (match q.2.asV σ e with
  |some y=>NF σ e r (xs.set q.1 y)
  |none=>none)else none
def WX(σ:SSo)(t:Ty)(ps:List (Nat×SV)):Option OpRes:=
 match t with
 | .agg p=>(SY σ p ps p.dflt).map λx=>.v (.val (.agg p) x)
 | .arr n e=>(NF σ e ps (List.replicate n e.dflt)).map λx=>.v (.val (.arr n e) x)
 |_=>none
def fZ(σ:SSo)(u:Ty):SV->Option SV
 | .nilS=>match u with
  | .slice _=>some .nilS
  |_=>none
 | .obj k g=>match NA σ k g u with
  |some x=>some (.val u x)
  |none=>match u with
   | .slice _=>some (.obj k g)
   | .map _ _=>some (.obj k g)
   |_=>none
 |s=>(s.asV σ u).map (.val u ·)
def f_(σ:SSo)(p:Ty)(i:Nat)(s c:SV):Option SV:=
 bif Nat.blt i p.fields then (match p.sub (G4 p.fields i) with
  |some u=>match fZ σ u s with
   |some l=>c.setAt (G4 p.fields i) l
   |none=>none
  |none=>none)else none
def QD(σ:SSo)(p:Ty):List (Nat×SV)->SV->Option SV
 |[],c=>some c
 |q::r,c=>match f_ σ p q.1 q.2 c with
  |some d=>QD σ p r d
  |none=>none
def LZ(id:Nat)(t:Ty)(x:t.T):(u:Ty)->Option u.T
 | .ialt j a r=>bif Nat.beq id j then(Ty.cast? t a x).map Sum.inl else(LZ id t x r).map Sum.inr
 |_=>none
def loadAt(σ:SSo)(t:Ty):SV->Option SV
 | .ref u x=>(KN u t x).map (.val t ·)
 | .ptr k p _=>match σ k with
  |some (.box _ c _)=>match c.getAt p with
   | some (.obj j g)=>(match t with
    | .slice _=>some (.obj j g)
    | .map _ _=>some (.obj j g)
    |_=>none)
   | some (.ptr j q u)=>(match t with
    | .ptr _=>some (.ptr j q u)
    |_=>none)
   | some (.fn f caps)=>(match t with
    | .fnc _ _=>some (.fn f caps)
    |_=>none)
   |some s=>(s.asC σ t).map (.val t ·)
   |none=>none
  | some (.kn f caps)=>(match p,t with
   |[],.fnc _ _=>some (.fn f caps)
   |_,_=>none)
  | some (.kv e x)=>(match Ty.at e p x with
   |some ⟨u,y⟩=>(KN u t y).map (.val t ·)
   |none=>none)
  |_=>none
 | .ptri k p i q _=>match σ k with
  |some (.box _ c _)=>match c.getAt p with
   |some (.val (.arr _ e) xs)=>match Ty.at e q ((show List e.T from xs).getD i e.dflt)with
    |some ⟨u,y⟩=>(KN u t y).map (.val t ·)
    |none=>none
   |_=>none
  |_=>none
 | .elem k g i q _=>match σ k with
  | some (.sl _ e xs g' true)=>bif Nat.beq g g' then (match Ty.at e q (xs.getD i e.dflt) with
   |some ⟨u,y⟩=>(KN u t y).map (.val t ·)
   |none=>none)else none
  | some (.dp [_] e xs _ none true)=>bif Nat.beq g 0 then (match Ty.at e q ((show List e.T from xs).getD i e.dflt) with
   |some ⟨u,y⟩=>(KN u t y).map (.val t ·)
   |none=>none)else none
  | some (.dp (_::id2::r) e xs _ _ true)=>(match q,t with
   |[],.slice _=>bif Nat.beq g 0 then some (.lnS ((show List (List (E4 r e).T)from xs).getD i []).length)else none
   |_,_=>none)
  |_=>none
 |_=>none
def GT:Ty->SV
 | .prod a b=>.pr (GT a) (GT b)
 | .slice _=>.nilS
 | .agg (.prod a b)=>.pr (GT a) (GT b)
 |t=>.val t t.dflt
def QE(t:Ty):SV->Option SV
 | .obj k g=>(match t with
  | .slice _=>some (.obj k g)
  | .map _ _=>some (.obj k g)
  |_=>none)
 | .ptr k p u=>(match t with
  | .ptr _=>some (.ptr k p u)
  |_=>none)
 | .bt u c=>bif u.same t then some c else none
 | .fn f caps=>(match t with
  | .fnc _ _=>some (.fn f caps)
  |_=>none)
 |s=>(s.as t).map (.val t ·)
def sY(c:SV)(p:List Bool)(n:Nat)(e:Ty)(xs:List e.T)(i:Nat)(z:e.T):Option SV:=c.setAt p (.val (.arr n e) (xs.set i z))
def QF(σ:SSo)(t:Ty):SV->Option SV
 | .ptr k p u=>match t with
  | .agg (.prod a b)=>bif u.bare.same (.prod a b) then (match σ k with
   |some (.box _ c _)=>match c.getAt p with
    |some s=>some (.bt (.agg (.prod a b)) s)
    |none=>none
   |_=>none)else none
  |_=>none
 |_=>none
def SZ(σ:SSo)(t:Ty)(ps:List (Nat×SV)):Option OpRes:=
 match t with
 | .agg (.prod a b)=>(QD σ (.prod a b) ps (GT (.prod a b))).map λc=>.v (.bt (.agg (.prod a b)) c)
 |_=>none
def storeAt(σ:Nat→Option Obj)(t:Ty)(v:SV):SV→Option (Nat×Obj)
 | .ptr k p u=>if u.bare.same t.bare=true then (match σ k with
  |some (.box b c true)=>match QE t v with
   |some s=>(c.setAt p s).map λc'=>(k,.box b c' true)
   |none=>none
  |_=>none)else none
 | .ptri k p i q _=>match σ k with
  |some (.box b c true)=>match c.getAt p with
   |some (.val (.arr n e) xs)=>match v.as t with
    |some y=>match Ty.put e q ((show List e.T from xs).getD i e.dflt) t y with
     |some z=>(sY c p n e xs i z).map λc'=>(k,.box b c' true)
     |none=>none
    |none=>none
   |_=>none
  |_=>none
 | .elem k g i q _=>match σ k with
  | some (.sl id e xs g' true)=>bif Nat.beq g g' then (match v.asV σ t with
   |some y=>match Ty.put e q (xs.getD i e.dflt) t y with
    |some z=>some (k,.sl id e (xs.set i z) g true)
    |none=>none
   |none=>none)else none
  | some (.dp [id] e xs gk none true)=>bif Nat.beq g 0 then (match v.asV σ t with
   |some y=>match Ty.put e q ((show List e.T from xs).getD i e.dflt) t y with
    |some z=>some (k,.dp [id] e ((show List e.T from xs).set i z) gk none true)
    |none=>none
   |none=>none)else none
  |_=>none
 |_=>none
def S_(t:Ty):Bool:=bif Nat.beq t.fields 1 then t.bare.same t else true
def LE(t:Ty)(f:Nat)(s:SV):Option SV:=
 bif S_ t then (match s with
  | .ptr k p u=>if u.bare.same t=true then(t.sub (G4 t.fields f)).map λv=>.ptr k (p++G4 t.fields f) v else none
  | .ptri k p i q u=>if u.bare.same t=true then(t.sub (G4 t.fields f)).map λv=>.ptri k p i (q++G4 t.fields f) v else none
  | .elem k g i q u=>if u.bare.same t=true then(t.sub (G4 t.fields f)).map λv=>.elem k g i (q++G4 t.fields f) v else none
  | .ref u x=>match JZ u t x with
   |some y=>match Ty.at t (G4 t.fields f) y with
    |some ⟨v,z⟩=>some (.ref v z)
    |none=>none
   |none=>none
  |_=>none)else none
def T0(e:Ty)(xs:List e.T)(i:Int):OpRes:=.may e.T (at? xs i) e.dflt λx=>⟨.ref e x,[]⟩
def g8(σ:Nat→Option Obj)(t:Ty)(i:Int)(s:SV):Option OpRes:=
 match t with
 | .slice e=>match s with
  | .obj k g=>match σ k with
   | some (.sl _ e' xs g' w)=>bif Nat.beq g g'&&e'.same e then (bif w then some (.may Unit (in? xs.length i) () λ_=>⟨.elem k g i.toNat [] e',[]⟩)
    else some (T0 e' xs i))else none
   | some (.dp (id::r) t' xs gk h w)=>bif Nat.beq g 0&&(E4 r t').same e then (bif w then some (.may Unit (in? (show List (E4 r t').T from xs).length i) () λ_=>⟨.elem k g i.toNat [] (E4 r t'),[]⟩)
    else some (T0 (E4 r t') xs i))else none
   |_=>none
  |s=>match s.as (.slice e)with
   |some xs=>some (T0 e xs i)
   |none=>none
 | .arr n e=>match NC σ s with
  | .ptr k p u=>bif u.same (.arr n e)then some (.may Unit (in? n i) () λ_=>⟨.ptri k p i.toNat [] e,[]⟩)else none
  | .ref u x=>match Ty.cast? u (.arr n e) x with
   |some xs=>some (T0 e xs i)
   |none=>none
  |_=>none
 |_=>none
def sZ(s:DW)(i:Int):OpRes:=.may UInt8 (at? s i) 0 λb=>⟨.val (.int .u8) (b.toNat:Int),[]⟩
def s_(e:Ty)(xs:List e.T)(i:Int):OpRes:=.may e.T (at? xs i) e.dflt λx=>⟨.val e x,[]⟩
def gA(t:Ty)(i:Int)(s:SV):Option OpRes:=
 match t with
 | .str=>match s with
  | .val .str s=>some (sZ s i)
  |_=>none
 | .arr n e=>match s with
  | .val u x=>match Ty.cast? u (.arr n e) x with
   |some xs=>some (s_ e xs i)
   |none=>none
  |_=>none
 |_=>none
def T1(n:Nat):OpRes:=.v (.val (.int .i64) (n:Int))
def A7z(s:DW):OpRes:=T1 s.length
def gB(e:Ty)(xs:List e.T):OpRes:=T1 xs.length
def len? (n:Nat):Option Int:=bif Nat.ble n 281474976710656 then some (n:Int)else none
def tC(n:Nat):OpRes:=.may Int (len? n) 0 λk=>⟨.val (.int .i64) k,[]⟩
def tD(a b:Ty)(es:List (a.T×b.T)):OpRes:=tC es.length
def gC(σ:SSo)(t:Ty)(s:SV):Option OpRes:=
 match t with
 | .str=>match s with
  | .val .str s=>some (A7z s)
  |_=>none
 | .arr n _=>bif Nat.ble n 281474976710656 then some (T1 n)else none
 | .slice e=>match s with
  | .obj k g=>match σ k with
   |some (.sl _ e' xs g' _)=>bif Nat.beq g g' then some (gB e' xs)else none
   |some (.dp (id::r) t' xs gk h w)=>bif Nat.beq g 0 then some (gB (E4 r t') xs)else none
   |_=>none
  | .lnS n=>some (T1 n)
  |s=>match s.as (.slice e)with
   |some xs=>some (gB e xs)
   |none=>none
 | .map a b=>match s with
  | .obj k g=>match σ k with
   |some (.mp a' b' es _)=>bif Nat.beq g 0 then some (tD a' b' es)else none
   |_=>none
  | .val u x=>match Ty.cast? u (.map a b) x with
   |some es=>some (tD a b es)
   |none=>none
  |_=>none
 |_=>none
def NG(sl:Option SV)(d:Int):Option Int:=match sl with
 |some (.val (.int _) n)=>some n
 |none=>some d
 |_=>none
def gD(s:DW)(lo hi:Option SV):Option OpRes:=match NG lo 0,NG hi s.length with
 |some l,some h=>some (.may DW (cut? s l h) [] λy=>⟨.val .str y,[]⟩)
 |_,_=>none
def QG(e:Ty)(xs:List e.T)(lo hi:Option SV):Option OpRes:=match NG lo 0,NG hi xs.length with
 |some l,some h=>some (.may (List e.T) (cut? xs l h) [] λy=>⟨.val (.slice e) y,[]⟩)
 |_,_=>none
def gE(σ:SSo)(t:Ty)(x:SV)(lo hi:Option SV):Option OpRes:=
 match t with
 | .str=>match x with
  | .val .str s=>gD s lo hi
  |_=>none
 | .slice e=>match x.asV σ (.slice e)with
  |some xs=>QG e xs lo hi
  |none=>none
 |_=>none
def WY(σ:SSo)(t:Ty)(x:SV)(lo hi:Option SV):Option OpRes:=
 match t with
 | .arr n e=>match NC σ x with
  | .ref u y=>match Ty.cast? u (.arr n e) y with
   |some xs=>bif Nat.ble n 281474976710656 then QG e xs lo hi else none
   |none=>none
  |_=>none
 |t=>gE σ t x lo hi
def gF:SV->Nat->Option OpRes
 | .tup l,i=>match l.list[i]? with
  |some s=>some (.v s)
  |none=>none
 |_,_=>none
def WZ(ke:Bool)(k v:Ty)(ok:Bool)(key:SV)(es:List (k.T×v.T)):Option OpRes:=match fR ke k,key.as k with
 |some eq,some x=>
  some (.v (bif ok then .tup (.scons (.val v ((FQ eq x es).getD v.dflt)) (.scons (.val .bool (FQ eq x es).isSome) .snil))else .val v ((FQ eq x es).getD v.dflt)))
 |_,_=>none
def gG(σ:SSo)(ke:Bool)(t:Ty)(ok:Bool)(m key:SV):Option OpRes:=
 match t with
 | .map k v=>match m with
  | .val u es=>match Ty.cast? u (.map k v) es with
   |some es=>WZ ke k v ok key es
   |none=>none
  | .obj j g=>match σ j with
   |some (.mp k' v' es _)=>bif Nat.beq g 0&&(k'.same k&&v'.same v)then WZ ke k' v' ok key es else none
   |_=>none
  |_=>none
 |_=>none
def tE(σ:SSo)(self:Nat)(t:Ty)(m:SV):Option OpRes:=
 match t with
 | .map k v=>match m.asV σ (.map k v)with
  |some es=>some (.pure ⟨.obj self 0,[(self,some (.it k v es))]⟩)
  |none=>none
 |_=>none
def W_(σ:SSo)(ke:Bool)(t:Ty)(m key x:SV):Option OpRes:=
 match t with
 | .map k v=>match m with
  | .obj j g=>match σ j with
   | some (.mp k' v' es true)=>bif Nat.beq g 0&&(k'.same k&&v'.same v) then (match fR ke k',key.as k',x.asV σ v' with
    |some eq,some a,some b=>some (.pure ⟨.undef,[(j,some (.mp k' v' (FH eq a b es) true))]⟩)
    |_,_,_=>none)else none
   |_=>none
  |_=>none
 |_=>none
def T2(σ:SSo)(w:Bool)(self id:Nat)(t:Ty)(s x:SV):Option OpRes:=
 match t with
 | .slice e=>match x.asV σ (.slice e)with
  |some ys=>match s with
   | .nilS=>some (.may (List e.T) (app? (24*e.sz) [] ys) [] λzs=>⟨.obj self 0,[(self,some (.sl id e zs 0 w))]⟩)
   | .obj k g=>match σ k with
    | some (.sl id' e' xs g' w')=>bif Nat.beq g 0&&(Nat.beq g' 0&&Nat.beq id id') then (match Ty.cast? (.slice e') (.slice e) xs with
     |some xs=>some (.may (List e.T) (app? (24*e.sz) xs ys) [] λzs=>⟨.obj self 0,[(self,some (.sl id e zs 0 w')),(k,none)]⟩)
     |none=>none)else none
    |_=>none
   |_=>none
  |none=>none
 |_=>none
def X0(σ:SSo)(self id:Nat)(t:Ty)(s x:SV):Option OpRes:=
 match t,s with
 | .slice e,.obj k g=>match σ k with
  | some (.dp [id'] e' xs _ none true)=>bif Nat.beq g 0&&(Nat.beq id id'&&e'.same e) then (match x.asV σ (.slice e') with
   |some ys=>some (.may (List e'.T) (app? (24*e'.sz) (show List e'.T from xs) ys) [] λzs=>⟨.obj self 0,[(self,some (.dp [id'] e' zs (self+1) none true)),(k,none)]⟩)
   |none=>none)else none
  | some (.dp (id'::id2::r) e' xs _ none true)=>bif Nat.beq g 0&&(Nat.beq id id'&&((E4 (id2::r) e').same e && !(EV k (FC x)))) then (match K1 σ (id'::id2::r) e' x with
   |some ys=>some (.may (List (E4 (id2::r) e').T) (app? 24 (show List (E4 (id2::r) e').T from xs) ys) [] λzs=>⟨.obj self 0,(self,some (.dp (id'::id2::r) e' zs (self+1) none true))::(k,none)::gone (FC x)⟩)
   |none=>none)else none
  |_=>none
 |_,_=>none
def A80(σ:SSo):SV->Bool
 | .obj k _=>match σ k with
  |some (.dp (_::_::_) _ _ _ _ _)=>true
  |_=>false
 |_=>false
def O7(σ:SSo)(self n:Nat)(ids:List Nat)(t:Ty)(x:SV):Option OpRes:=match ids with
 |id::id2::r=>match undeep' n t with
  | some u=>bif (E4 (id::id2::r) u).same t then (match K1 σ (id2::r) u x with
   |some y=>some (.pure ⟨.obj self 0,(self,some (.dp (id::id2::r) u ([y]:List (E4 (id2::r) u).T) (self+1) none true))::gone (FC x)⟩)
   |none=>none)else none
  |none=>none
 |_=>none
where undeep':Nat->Ty->Option Ty
 |0,t=>some t
 |n+1,.slice t=>undeep' n t
 |_,_=>none
def X1(σ:SSo)(n:Nat)(p c:SV):Option (List (Nat×Option Obj)):=match p,c with
 | .elem k _ _ _ _,.obj j _=>match σ k with
  | some (.dp (id::id2::r) e xs gk (some [i]) true)=>bif Nat.beq gk (j+2) then (match σ j with
   | some (.dp ids e' y _ none true)=>bif MH ids (id2::r) then (match Ty.cast? (E4 ids e') (E4 (id2::r) e) y with
    |some y=>some [(k,some (.dp (id::id2::r) e ((show List (E4 (id2::r) e).T from xs).set i y) n none true)),(j,none)]
    |none=>none)else none
   |_=>none)else none
  |_=>none
 |_,_=>none
def X2(self k id:Nat)(e:Ty)(xs:List e.T)(lo hi:Option SV):Option OpRes:=match NG lo 0,NG hi xs.length with
 |some l,some h=>some (.may (List e.T) (cut? xs l h) [] λy=>⟨.obj self 0,[(self,some (.dp [id] e y (self+1) none true)),(k,none)]⟩)
 |_,_=>none
def T3(σ:SSo)(self:Nat)(t:Ty)(x:SV)(lo hi:Option SV):Option OpRes:=
 match t,x with
 | .slice e,.obj k g=>match σ k with
  |some (.dp [id] e' xs _ none true)=>bif Nat.beq g 0&&e'.same e then X2 self k id e' xs lo hi else none
  |some (.sl id e' xs g' true)=>bif Nat.beq g 0&&(Nat.beq g' 0&&e'.same e)then X2 self k id e' xs lo hi else none
  |_=>none
 |_,_=>none
def T4(σ:Nat→Option Obj)(self:Nat)(t:Ty)(a:SV):Option OpRes:=match a with
 | .elem k g i [] _=>match σ k with
  |some (.dp (id::id2::r) e xs gk none true)=>bif Nat.beq g 0&&(E4 (id2::r) e).same t then
   some (.pure ⟨.obj self 0,[(self,some (.dp (id2::r) e ((show List (E4 (id2::r) e).T from xs).getD i (E4 (id2::r) e).dflt) (self+1) none true)),(k,some (.dp (id::id2::r) e xs (self+2) (some [i]) true))]⟩)else none
  |_=>none
 |_=>none
def gH(i:Nat):Option (List Nat)->Bool
 |none=>true
 |some [j]=>Nat.beq j i
 |some _=>false
def X3(σ:SSo)(self:Nat)(t:Ty)(v a:SV):Option OpRes:=match a with
 | .elem k g i [] _=>match σ k with
  | some (.dp (id::id2::r) e xs gk h true)=>bif Nat.beq g 0&&((E4 (id2::r) e).same t && !(EV k (FC v))) then (match K1 σ (id2::r) e v with
   |some y=>some (.may Unit (bif gH i h then some ()else none) () λ_=>⟨.undef,(k,some (.dp (id::id2::r) e ((show List (E4 (id2::r) e).T from xs).set i y) (self+1) none true))::gone (FC v)⟩)
   |none=>none)else none
  |_=>none
 |_=>none
def K3(el:Nat->Nat):Nat->Nat->List Nat
 |0,_=>[]
 |n+1,t=>el t::K3 el n (el t)
def tF:Nat->Ty->Option Ty
 |0,t=>some t
 |n+1,.slice t=>tF n t
 |_,_=>none
def gI(σ:Nat→Option Obj)(w:Bool)(self id:Nat)(t t':Ty)(s x:SV):Option OpRes:=
 match t,t',x with
 | .slice (.int .u8),.str,.val .str ys=>T2 σ w self id (.slice (.int .u8)) s (.val (.slice (.int .u8)) (FV ys))
 |_,_,_=>none
def X4(a b:Int):Int:=bif decide (b<a)then b else a
def T5(a b:Int):Int:=bif decide (a<b)then b else a
def HI:(ps:List Sh)->List SV->List Mk->List (Nat×Option Obj)
 | .box _::ps,.ptr k _ _::vs,m::ms=>(match m.obs with|(_,o)::r=>(k,o)::r|[]=>[])++HI ps vs ms
 | .io _ _::ps,.obj k _::vs,m::ms=>(match m.obs with|(_,o)::r=>(k,o)::r|[]=>[])++HI ps vs ms
 | .io _ _::ps,_::vs,_::ms=>HI ps vs ms
 | .bld _ false::ps,.ptr k _ _::vs,m::ms=>(match m.obs with|(_,some (.box t (.pr _ y) w))::r=>(k,some (.box t (.pr (.slf k) y) w))::r|_=>[])++HI ps vs ms
 |_::ps,_::vs,ms=>HI ps vs ms
 |_,_,_=>[]
def Ty.lit:Ty->Bool
 | .bool=>true
 | .int _=>true
 | .str=>true
 |_=>false
def T6:List Sh->Bool
 |[]=>true
 | .val t::r=>t.lit&&T6 r
 |_=>false
def T7(σ:SSo)(k g:Nat)(t:Ty):Option t.T:=
 match σ k with
 |some (.sl _ e xs g' _)=>if Nat.beq g g' then Ty.cast? (.slice e) t xs else none
 |some (.mp a b es _)=>if Nat.beq g 0 then Ty.cast? (.map a b) t es else none
 |some (.dp (i::r) e x _ h w)=>if Nat.beq g 0&&(!w||h.isNone)then Ty.cast? (E4 (i::r) e) t x else none
 |_=>none
def SV.asLR(σ:Nat→Option Obj)(t:Ty):SV→Option t.T
 | .obj k g=>T7 σ k g t
 |s=>s.asC σ t
def SV.asCR(σ:SSo):(t:Ty)->SV->Option t.T
 | .prod a b=>λs=>match s with
  | .pr x y=>match SV.asCR σ a x,SV.asCR σ b y with
   |some u,some v=>some (u,v)
   |_,_=>none
  |s=>s.asC σ (.prod a b)
 | .agg p=>λs=>match s with
  | .val u x=>JZ u p x
  |s=>SV.asCR σ p s
 | .unit=>SV.asLR σ .unit
 | .bool=>SV.asLR σ .bool
 | .int k=>SV.asLR σ (.int k)
 | .str=>SV.asLR σ .str
 | .slice e=>SV.asLR σ (.slice e)
 | .arr n e=>SV.asLR σ (.arr n e)
 | .ptr e=>SV.asLR σ (.ptr e)
 | .map k v=>SV.asLR σ (.map k v)
 | .inil=>SV.asLR σ .inil
 | .ialt i t r=>SV.asLR σ (.ialt i t r)
 | .self=>SV.asLR σ .self
 | .opq=>SV.asLR σ .opq
 | .fnc d c=>SV.asLR σ (.fnc d c)
def T8(σ:SSo)(t:Ty)(v:SV):Option t.T:=match t,v with
 | .ptr e,.ptr k [] _=>match σ k with
  |some (.box t' c true)=>bif t'.same e.bare then(c.asCR σ e).map some else none
  |_=>none
 |t,.obj k g=>T7 σ k g t
 |t,.bt u c=>bif u.same t then c.asCR σ t else none
 |t,v=>v.asV σ t
def X5(σ:SSo):(s:Sh)->SV->Option s.T
 | .val t,v=>T8 σ t v
 |_,_=>none
def QH(σ:SSo):(l:List Sh)->List SV->Option (TupR l)
 |[],[]=>some ()
 |[a],[v]=>X5 σ a v
 |a::b::r,v::w=>match X5 σ a v,QH σ (b::r) w with
  |some x,some y=>some (x,y)
  |_,_=>none
 |_,_=>none
def gJ(σ:SSo)(t:Ty)(s:SV):Option t.T:=match T8 σ t s with
 |some x=>some x
 |none=>PS σ t s
def X6(σ:SSo):(l:List Sh)->List SV->Option (TupR l)
 |[],[]=>some ()
 | .val t::r,s::w=>match gJ σ t s,X6 σ r w with
  |some x,some y=>some (O3 (.val t) r x y)
  |_,_=>none
 |_,_=>none
def T9(σ:SSo)(cs:List SV):Nat->(ps:List Sh)->(d:Ty)->d.T->Option (TupR ps)
 |0,.val t::r,d,x=>bif J_ d then none else match Ty.cast? d t x,X6 σ r cs with
  |some u,some v=>some (O3 (.val t) r u v)
  |_,_=>none
 |n+1,.val t::r,.prod p q,x=>match Ty.cast? p t x.1,T9 σ cs n r q x.2 with
  |some u,some v=>some (O3 (.val t) r u v)
  |_,_=>none
 |_,_,_,_=>none
def X7(fs:Nat->Option FSpec)(σ:SSo)(d c:Ty):SV->Option (d.T->Option c.T)
 | .fn f caps=>match fs f with
  |some sp=>bif K0 caps&&PR sp.ps then some (λx=>(T9 σ caps.list (SG d) sp.ps d x).bind λv=>(sp.F v).bind λr=>O2 _ c r)else none
  |_=>none
 |_=>none
def X8(fs:Nat->Option FSpec)(σ0 σ:SSo):(s:Sh)->SV->Option s.T
 | .val t,v=>T8 σ0 t v
 | .own id t w,v=>JJ σ id t w v
 | .hof nd d c,v=>bif nd then none else X7 fs σ0 d c v
 |_,_=>none
def QI(fs:Nat->Option FSpec)(σ0 σ:SSo):(l:List Sh)->List SV->Option (TupR l)
 |[],[]=>some ()
 |[a],[v]=>X8 fs σ0 σ a v
 |a::b::r,v::w=>match X8 fs σ0 σ a v,QI fs σ0 σ (b::r) w with
  |some x,some y=>some (x,y)
  |_,_=>none
 |_,_=>none
def TA:List Sh->Bool
 |[]=>true
 |a::r=>!(EU a)&&TA r
def LF:List Sh->Bool
 |[]=>true
 | .val t::r=>t.lit&&LF r
 | .own _ t w::r=>w&&(t.lit&&LF r)
 |_=>false
def tG(fs:Nat->Option FSpec)(σ:SSo)(sp:FSpec)(args:List SV):Option (TupR sp.ps):=
 bif LF sp.rs&&(TA sp.ps&&(Nat.ble (FM (sp.rs++sp.ps.filter EU)) 8&&J5 (G5 σ sp.ps args)))then QI fs (EK σ (gone (G5 σ sp.ps args))) σ sp.ps args else none
def X9(σ:SSo)(self:Nat)(sp:FSpec)(args:List SV)(r:TupR (sp.rs++sp.ps.filter EU)):Upd:=
 let l:=F5 (sp.rs++sp.ps.filter EU) r self
 let k:=sp.rs.length
 let rs:=l.take k
 ⟨match rs with
  |[m]=>m.sv
  |_=>.tup (SV.ofList (rs.map (·.sv))),rs.flatMap (·.obs)++(HI sp.ps args (l.drop k)++gone (G5 σ sp.ps args))⟩
def gK(fs:Nat->Option FSpec)(σ:SSo)(self:Nat)(f:Nat)(args:List SV):Option OpRes:=
 match fs f with
 |some sp=>match bif Nat.ble (FM (sp.rs++sp.ps.filter EU)) 8 then J6 fs σ sp.ps args else none with
  |some v=>some (.may (TupR (sp.rs++sp.ps.filter EU)) (sp.F v) (TupR.dflt _) (X9 σ self sp args))
  |none=>match bif T6 sp.rs then QH σ sp.ps args else none with
   | some v=>some (.may (TupR (sp.rs++sp.ps.filter EU)) (sp.F v) (TupR.dflt _) λr =>
    let rs:=(F5 (sp.rs++sp.ps.filter EU) r self).take sp.rs.length
    ⟨match rs with
     |[m]=>m.sv
     |_=>.tup (SV.ofList (rs.map (·.sv))),[]⟩)
   |none=>match tG fs σ sp args with
    |some v=>some (.may (TupR (sp.rs++sp.ps.filter EU)) (sp.F v) (TupR.dflt _) (X9 σ self sp args))
    |none=>none
 |none=>none
def gL(ks:Nat->Option KSpec)(fs:Nat->Option FSpec)(σ:SSo)(self:Nat)(f:Nat)(args:List SV):Option OpRes:=match ks f with
 | some s=>bif Nat.beq args.length s.n&&Nat.ble (FM (s.sp.rs++s.sp.ps.filter EU)) 8 then (match SU false σ (λt=>args.getD t .undef) s.kx with
  |some ps=>match J6 fs σ s.sp.ps (args++ps)with
   |some v=>some (.may (TupR (s.sp.rs++s.sp.ps.filter EU)) (s.sp.F v) (TupR.dflt _) (X9 σ self s.sp (args++ps)))
   |none=>none
  |none=>none)else none
 |none=>none
def XA(σ:SSo):(d:Ty)->List SV->Option d.T
 | .prod a b,s::r=>match s.asV σ a,XA σ b r with
  |some x,some y=>some (x,y)
  |_,_=>none
 |t,[s]=>s.asV σ t
 |_,_=>none
def gM(dr:Bool)(fs:Nat->Option FSpec)(ks:Nat->Option KSpec)(σ:SSo)(self:Nat)(fv:SV)(args:List SV):Option OpRes:=
 match fv with
 | .fn f caps=>bif K0 caps then (match gL ks fs σ self f (args++caps.list) with
  |some r=>some r
  |none=>gK fs σ self f (args++caps.list))else none
 | .hof nd d c F=>match(bif !dr||nd then XA σ d args else none)with
  |some x=>some (.may c.T (F x) c.dflt λy=>⟨fI c y,[]⟩)
  |none=>none
 |_=>none
def XB(fs:Nat->Option FSpec)(mt:Nat->Option Nat)(c:Ty):(u:Ty)->Option (u.T->Option c.T)
 | .inil=>some λ_=>none
 | .ialt id t r=>match mt id with
  |some f=>bif J_ t then none else match SH false fs (λ_=>none) t c (.fn f .snil),XB fs mt c r with
   |some F,some G=>some λx=>Sum.casesOn (motive:=λ_=>Option c.T) (show Sum t.T r.T from x) F G
   |_,_=>none
  |none=>none
 |_=>none
def gN(fs:Nat->Option FSpec)(mt:String->Nat->Option Nat)(c:Ty)(m:String):SV->Option OpRes
 | .val u x=>match XB fs (mt m) c u with
  |some F=>some (.may c.T (F x) c.dflt λy=>⟨fI c y,[]⟩)
  |none=>none
 |_=>none
def SV.unagg:SV->SV
 | .val (.agg p) x=>.val p (show p.T from x)
 |s=>s
def gO(t:Ty):SV->Option OpRes
 | .val (.int _) n=>match t with
  | .int k=>some (.v (.val (.int k) (k.wrap (show Int from n))))
  |_=>none
 | .val .str s=>match t with
  | .str=>some (.v (.val .str s))
  |_=>none
 |_=>none
def gP(σ:SSo)(st t:Ty)(x:SV):Option OpRes:=
 match t with
 | .slice (.int .u8)=>match x with
  | .val .str s=>some (.v (.val (.slice (.int .u8)) (FV s)))
  |_=>none
 | .str=>match x with
  | .val .str s=>some (.v (.val .str s))
  |s=>match bif st.same (.slice (.int .u8))then s.asV σ (.slice (.int .u8))else none with
   |some xs=>some (.may DW (cat? [] (HH xs)) [] λy=>⟨.val .str y,[]⟩)
   |none=>none
 |t=>gO t x
def gQ(self el:Nat)(t:Ty)(x:SV):Option OpRes:=
 match t,x with
 | .slice (.int .u8),.val .str s=>some (.pure ⟨.obj self 0,[(self,some (.sl el (.int .u8) (FV s) 0 true))]⟩)
 |_,_=>none
def mks? {α:Type}(B:Nat)(l c:Int)(z:α):Option (List α):=
 bif decide (0<=l)&&(decide (l<=c)&&decide (c.toNat*B<=70368744177664))then some (List.replicate l.toNat z)else none
def QJ(self n:Nat)(ids:List Nat)(t:Ty)(a b:Int):Option OpRes:=match ids with
 |id::id2::r=>match tF n t with
  |some u=>bif (E4 (id::id2::r) u).same t then
   some (.may (List (E4 (id2::r) u).T) (mks? 24 a b (E4 (id2::r) u).dflt) [] λzs=>⟨.obj self 0,[(self,some (.dp (id::id2::r) u zs (self+1) none true))]⟩)else none
  |none=>none
 |_=>none
def gR(σ:SSo)(t:Ty)(s:SV):Option OpRes:=match s with
 | .val (.ptr e) y=>bif e.same t then some (.may e.T (show Option e.T from y) e.dflt λz=>⟨.val e z,[]⟩)else none
 |s=>(loadAt σ t s).map .v
def TB(E:Env)(t:Nat)(ty:Ty):Bool:=match ty with
 | .map k _=>E.eq (E.ky t)&&(match E.ty (E.ky t)with|some k'=>k'.same k|none=>false)
 |_=>false
def gS(E:Env)(ρ:Operand->SV)(ρt ρf:Operand->SV)(σ:SSo)(self:Nat)(o:Oper):Option OpRes:=
 let wf:Bool:=match o.dst with|some d=>E.wr d|none=>false
 let dd:Nat:=match o.dst with|some d=>E.dp d|none=>0
 match o.op with
 | .move x=>some (.v (ρ x))
 | .assign x=>some (.v (ρ x))
 | .pick c a b=>fX (ρ c) (ρt a) (ρf b)
 | .alloc t=>match E.ty t with
  |some ty=>some (.pure ⟨.ptr self [] ty.bare,[(self,some (.box ty.bare (GT ty.bare) true))]⟩)
  |none=>none
 | .box t v=>match E.ty t with
  |some ty=>match QE ty (ρ v)with
   |some c=>some (.pure ⟨.ptr self [] ty.bare,[(self,some (.box ty.bare c.unagg true))]⟩)
   |none=>none
  |none=>none
 | .build t ps=>match E.ty t with
  |some ty=>bif wf then SZ σ ty (ps.toList.map λp=>(p.1,ρ p.2))else WX σ ty (ps.toList.map λp=>(p.1,ρ p.2))
  |none=>none
 | .buildSlice t len ps=>match bif wf&&Nat.beq len 1 then(match ps.toList,E.ty t with|[(0,x)],some ty=>O7 σ self dd (K3 E.el dd t) ty (ρ x)|_,_=>none)else none with
  |some r=>some r
  |none=>match E.ty t with
   |some (.slice e)=>match bif Nat.beq len 0 then(match ps.toList with|[]=>some ([]:List e.T)|_=>none)else bif Nat.ble (len*e.sz) 16777216 then NF σ e (ps.toList.map λp=>(p.1,ρ p.2)) (List.replicate len e.dflt)else none with
    |some xs=>some (.pure ⟨.obj self 0,[(self,some (.sl (E.el t) e xs 0 wf))]⟩)
    |none=>none
   |_=>none
 | .insert t m k v=>match E.ty t with
  |some ty=>W_ σ (TB E t ty) ty (ρ m) (ρ k) (ρ v)
  |none=>none
 | .mapUpdate t m k v=>match E.ty t with
  |some ty=>W_ σ (TB E t ty) ty (ρ m) (ρ k) (ρ v)
  |none=>none
 | .load t a=>match E.ty t with
  | some ty=>bif wf then (match T4 σ self ty (ρ a) with
   |some r=>some r
   |none=>(QF σ ty (ρ a)).map .v)else gR σ ty (ρ a)
  |none=>none
 | .store t a v=>match E.ty t with
  | some ty=>(match X3 σ self ty (ρ v) (ρ a) with
   |some r=>some r
   |none=>(storeAt σ ty (ρ v) (ρ a)).map λp=>.pure ⟨.undef,[(p.1,some p.2)]⟩)
  |none=>none
 | .nilCheck x=>match ρ x with
  | .ptr k p u=>some (.v (.ptr k p u))
  | .ptri k p i q u=>some (.v (.ptri k p i q u))
  | .elem k g i q u=>some (.v (.elem k g i q u))
  | .ref t y=>some (.v (.ref t y))
  | .val (.ptr e) y=>some (.may e.T (show Option e.T from y) e.dflt λz=>⟨.ref e z,[]⟩)
  | .fn f c=>some (.v (.fn f c))
  | .hof nd d c F=>some (.v (.hof nd d c F))
  |_=>none
 | .binOp op t x y _=>match fV op (E.ty t) (ρ x) (ρ y)with
  |some r=>some r
  |none=>match sX (E.ty t) (E.eq t) op (ρ x) (ρ y)with
  |some r=>some r
  |none=>bif (match ρ x with| .val .bool _=>(match E.ty t with|some .bool=>true|_=>false)|_=>true)then WW op (ρ x) (ρ y)else none
 | .unOp op _ x=>fW op (ρ x)
 | .convert st t x=>match E.ty st,E.ty t with
  |some sy,some ty=>bif wf then gQ self (E.el t) ty (ρ x)else gP σ sy ty (ρ x)
  |_,_=>none
 | .makeInterface t x=>match E.ty t,E.ty o.type with
  |some a,some u=>bif a.isIface then none else match(ρ x).asV σ a with
   |some y=>(LZ t a y u).map λz=>.v (.val u z)
   |none=>none
  |_,_=>none
 | .makeFunc (.func f) first caps=>match first.toList with
  |[]=>some (.v (.fn f (SV.ofList (caps.toList.map ρ))))
  |_=>none
 | .makeMap t h=>match E.ty t with
  |some (.map k v)=>bif (match h with|none=>true|some x=>(match ρ x with| .val (.int _) _=>true|_=>false))then(some (.pure ⟨.obj self 0,[(self,some (.mp k v [] true))]⟩))else none
  |_=>none
 | .range t m=>match E.ty t with
  |some ty=>tE σ self ty (ρ m)
  |none=>none
 | .makeSlice t l c=>match E.ty t,ρ l,ρ c with
  |some (.slice e),.val (.int .i64) a,.val (.int .i64) b=>
   match QJ self dd (K3 E.el dd t) (.slice e) a b with
   |some r=>some r
   |none=>some (.may (List e.T) (mks? (24*e.sz) a b e.dflt) [] λzs=>⟨.obj self 0,[(self,some (.sl (E.el t) e zs 0 wf))]⟩)
  |_,_,_=>none
 | .slice t x lo hi none=>match E.ty t with
  | some ty=>(match bif wf then T3 σ self ty (ρ x) (lo.map ρ) (hi.map ρ) else none with
   |some r=>some r
   |none=>WY σ ty (ρ x) (lo.map ρ) (hi.map ρ))
  |none=>none
 | .fieldAddr t x f=>match E.ty t with
  | some (.agg p)=>bif Nat.blt f p.fields then (match ρ x with
   | .val (.ptr e) y=>bif (LE p f (.ref e e.dflt)).isSome then some (.may e.T (show Option e.T from y) e.dflt λz=>⟨(LE p f (.ref e z)).getD .undef,[]⟩)else none
   |s=>(LE p f s).map .v)else none
  |_=>none
 | .indexAddr t x i=>match E.ty t,ρ i with
  |some ty,.val (.int _) n=>g8 σ ty n (ρ x)
  |_,_=>none
 | .index t x i=>match E.ty t,ρ i with
  |some ty,.val (.int _) n=>gA ty n (ρ x)
  |_,_=>none
 | .lookup t m k ok=>match E.ty t with
  |some ty=>gG σ (TB E t ty) ty ok (ρ m) (ρ k)
  |none=>none
 | .extract x i=>gF (ρ x) i
 | .call {callee:=.builtin b,args:=as,argTypes:=ts}=>match b,as.toList with
  | .len,[x]=>match ts.toList with
   |[t]=>match E.ty t with
    |some ty=>gC σ ty (ρ x)
    |none=>none
   |_=>none
  | .append,[s,x]=>match ts.toList with
   | [t,t']=>bif Nat.beq t t' then (match E.ty t with
    | some ty=>(match X0 σ self (E.el t) ty (ρ s) (ρ x) with
     |some r=>some r
     |none=>T2 σ wf self (E.el t) ty (ρ s) (ρ x))
    |none=>none)else(match E.ty t,E.ty t' with
    |some ty,some ty'=>gI σ wf self (E.el t) ty ty' (ρ s) (ρ x)
    |_,_=>none)
   |_=>none
  | .min,[x,y]=>match ρ x,ρ y with
   | .val (.int k) a,.val (.int l) c=>bif L9 k l then some (.v (.val (.int k) (X4 a c)))else none
   |_,_=>none
  | .max,[x,y]=>match ρ x,ρ y with
   | .val (.int k) a,.val (.int l) c=>bif L9 k l then some (.v (.val (.int k) (T5 a c)))else none
   |_,_=>none
  |_,_=>none
 | .call {callee:=.value f,args:=as,argTypes:=_}=>gM E.dr E.fs E.ks σ self (ρ f) (as.toList.map ρ)
 | .call {callee:=.invoke r m,args:=as,argTypes:=_}=>match as.toList,E.ty o.type with
  |[],some c=>gN E.fs E.mt c m (ρ r)
  |_,_=>none
 |_=>none
def tH(σ:SSo)(s:SV):List Nat:=match s with
 | .ptr k p _=>match σ k with
  |some (.box _ c _)=>match c.getAt p with
   |some x=>SM σ x
   |none=>[]
  |_=>[]
 |_=>[]
def XC(E:Env)(ρ:Operand->SV)(σ:SSo)(o:Oper):List Nat:=match o.op with
 | .build _ ps=>bif (match o.dst with|some d=>E.wr d|none=>false)then []else ps.toList.flatMap λp=>hk σ (ρ p.2)
 | .buildSlice _ _ ps=>bif (match o.dst with|some d=>E.wr d&&Nat.ble 2 (E.dp d)|none=>false)then []else ps.toList.flatMap λp=>hk σ (ρ p.2)
 | .insert _ _ _ v=>hk σ (ρ v)
 | .mapUpdate _ _ _ v=>hk σ (ρ v)
 | .range _ m=>hk σ (ρ m)
 | .makeInterface _ x=>hk σ (ρ x)
 | .makeFunc _ _ caps=>bif (match o.dst with|some d=>E.wr d|none=>false)then(caps.toList.map ρ).flatMap (SN σ)else []
 | .convert _ _ x=>hk σ (ρ x)
 | .load t x=>match E.ty t with
  |some (.agg _)=>bif (match o.dst with|some d=>E.wr d|none=>false)then []else tH σ (ρ x)
  |_=>[]
 | .indexAddr t x _=>match E.ty t with
  |some (.arr _ (.arr _ _))=>match ρ x with
   | .ptr k _ _=>match σ k with
    |some (.box _ _ true)=>[k]
    |_=>[]
   |_=>[]
  |_=>[]
 | .slice t x _ _ _=>match E.ty t with
  |some (.arr _ _)=>match ρ x with
   | .ptr k _ _=>match σ k with
    |some (.box _ _ true)=>[k]
    |_=>[]
   |_=>[]
  |_=>[]
 | .call {callee:=.builtin .append,args:=as,argTypes:=_}=>match as.toList with
  |[s,x]=>bif A80 σ (ρ s)then []else hk σ (ρ x)
  |_=>[]
 | .call {callee:=.value f,args:=as,argTypes:=_}=>match ρ f with
  | .fn n caps=>match E.ks n with
   |some s=>frzX σ s (as.toList.map ρ++caps.list)
   |none=>match E.fs n with
   |some sp=>bif (match o.dst with|some d=>Nat.beq (E.dp d) 9|none=>false)then []else bif (match o.dst with|some d=>E.wr d|none=>false)then fK σ sp.ps (as.toList.map ρ++caps.list)else WQ σ sp.ps (as.toList.map ρ++caps.list)
   |none=>[]
  | .hof _ _ _ _=>as.toList.flatMap λx=>hk σ (ρ x)
  |_=>[]
 |_=>[]
def OpRes.also(fz:List (Nat×Option Obj)):OpRes->OpRes
 | .pure u=>.pure ⟨u.sv,u.wr++fz⟩
 | .may α m d u=>.may α m d λx=>⟨(u x).sv,(u x).wr++fz⟩
def QK(E:Env)(ρ ρt ρf:Operand->SV)(σ:SSo)(self:Nat)(o:Oper):Option OpRes:=
 match gS E ρ ρt ρf (EK σ (LA σ (XC E ρ σ o))) self o with
 |some r=>some (r.also (LA σ (XC E ρ σ o)))
 |none=>none
def NH(all:Array Oper)(sl:Nat->SV)(o:Oper):Option (List (Nat×Bool)×Bool):=match o.guard with
 |none=>some ([],true)
 |some (j,w)=>match all[j]? with
  |some p=>match p.dst with
   |some t=>match sl t with
    | .val .bool b=>some ([(t,w)],bif w then b else !b)
    | .grd tk g (.val .bool b)=>some ((t,w)::tk,g&&(bif w then b else !b))
    |_=>none
   |none=>none
  |none=>none
def TC(t:Nat×Bool):List (Nat×Bool)->Bool
 |[]=>false
 |u::r=>(Nat.beq t.1 u.1&&(bif t.2 then u.2 else !u.2))||TC t r
def SV.strip(tk:List (Nat×Bool)):SV->SV
 | .grd tk' _ s=>bif tk'.all (TC · tk)then s else .undef
 |s=>s
def NI(c:Operand)(w:Bool)(tk:List (Nat×Bool)):List (Nat×Bool):=match c with
 | .tmp t=>(t,w)::tk
 |_=>tk
def A81{α:Type}(tk:List (Nat×Bool))(g:Bool)(m:Option α)(d:α):Option α:=match tk with
 |[]=>m
 |_=>bif g then m else some d
def K4(sl:Nat->SV)(d:Option Nat)(s:SV):Nat->SV:=match d with
 |none=>sl
 |some d=>λt=>bif Nat.beq t d then s else sl t
def IH(self k:Nat):Bool:=Nat.ble self k&&Nat.blt k (self+8)
def SV.names:SV->List Nat
 | .obj k _=>[k]| .ptr k _ _=>[k]| .ptri k _ _ _ _=>[k]| .elem k _ _ _ _=>[k]
 | .fn _ c=>c.names| .pr a b=>a.names++b.names| .grd _ _ s=>s.names| .bt _ c=>c.names| .slf k=>[k]| .scons a b=>a.names++b.names
 |_=>[]
def XD(σ:SSo):Nat->SV->List Nat
 |0,s=>s.names
 |n+1,s=>s.names++s.names.flatMap λk=>match σ k with
  |some (.box _ c _)=>XD σ n c
  |some (.kn _ c)=>XD σ n c
  |_=>[]
def QL(ρ:Operand->SV)(σ:SSo)(op:Op):List Nat:=match op with
 | .move _=>[]| .assign _=>[]| .fieldAddr _ _ _=>[]| .nilCheck _=>[]| .extract _ _=>[]| .alloc _=>[]| .makeMap _ _=>[]
 | .load _ x=>match ρ x with
  | .ptr k p _=>k::(match σ k with
   |some (.box _ c _)=>match c.getAt p with
    |some (.obj _ _)=>[]
    |some y=>y.names
    |none=>[]
   |_=>[])
  |s=>XD σ 2 s
 |op=>op.operands.toList.flatMap λx=>XD σ 2 (ρ x)
def XE(b:Array Nat)(i j:Nat):Bool:=bif Nat.blt i j then(b.getD j 0).testBit i else(b.getD i 0).testBit j
def TD(all:Array Oper)(o:Oper):List Nat:=
 (o.op.operands.toList.filterMap fun | .tmp t=>some t | _=>none)++(match o.guard with
  |some (j,_)=>match all[j]? with
   |some p=>p.dst.toList
   |none=>[]
  |none=>[])++o.dst.toList
def XF:List Nat->List Nat->Bool
 |[],_=>true
 |k::l,m=>!EV k m&&XF l m
def TE(all:Array Oper)(cl:List (List Nat×List Nat)):Bool:=
 let b:=Region.before all
 let n:=all.size
 ((List.range n).all λi=>(all.getD i default).after.toList.all λe=>!(Region.binds .any e)||Nat.blt e.on i) &&
 (List.range n).all λi=>(List.range n).all λj=>Nat.beq i j||
  (((match (all.getD i default).dst with | some t=>!(TD all (all.getD j default)).contains t | none=>true)||XE b i j) &&
   (XF (cl.getD i ([],[])).1 (cl.getD j ([],[])).2||XE b i j))
def seen(all:Array Oper)(draw:Bool)(n0 i:Nat)(F:List Nat)(σ:SSo):SSo:=
 bif draw then λk=>bif EV k F&&(Nat.blt k n0||((Region.before all).getD i 0).testBit ((k-n0) / 8))then σ k else none
 else σ
def Upd.far(self:Nat)(u:Upd):List Nat:=(u.wr.filter λp=>!IH self p.1).map (·.1)
def O8(σ:SSo)(self:Nat)(u:Upd):Bool:=u.wr.all λp=>IH self p.1||(σ p.1).isSome
def J9(all:Array Oper):Bool:=all.toList.any λo=>match o.guard with|some _=>true|none=>false
def TF(sl:Nat->SV):Nat->SV:=λt=>match sl t with
 | .grd _ _ _=>.undef
 |s=>s
def XG(all:Array Oper):List Nat:=all.toList.filterMap (·.dst)
section
variable{Ω:Type}
def calm(tk:List (Nat×Bool))(u:Upd):Bool:=match tk with
 |[]=>true
 |_=>match u.wr with
  |[]=>true
  |_=>false
def QN:List (Nat×Bool)->Bool
 |[_]=>true
 |_=>false
def gT(draw:Bool)(tk:List (Nat×Bool))(g:Bool)(r:OpRes)(K:Upd->Option Ω):Option Ω:=match r with
 | .pure u=>bif calm tk u then K u else bif !draw&&QN tk then(bif g then K u else K ⟨u.sv,[]⟩)else none
 | .may _ m d u=>Option.bind (A81 tk g m d) λx=>bif calm tk (u x)then K (u x)else bif !draw&&QN tk then(bif g then K (u x)else K ⟨(u x).sv,[]⟩)else none
def NJ(tk:List (Nat×Bool))(g:Bool)(s:SV):SV:=match tk with
 |[]=>s
 |tk=>.grd tk g s
def MK(E:Env)(all:Array Oper)(draw:Bool)(n0:Nat):List Oper->Nat->St->List (List Nat×List Nat)->(St->List (List Nat×List Nat)->Option Ω)->Option Ω
 |[],_,st,cl,K=>K st cl
 |o::rest,i,st,cl,K=>match NH all st.slots o with
  |none=>none
  |some (tk,g)=>
   let ρ:=λx=>(GF st.slots x).strip tk
   let c:=QL ρ st.sto o.op
   let σ:=seen all draw n0 i c st.sto
   match QK E ρ (match o.op with| .pick c _ _=>λx=>(GF st.slots x).strip (NI c true tk)|_=>ρ)
    (match o.op with| .pick c _ _=>λx=>(GF st.slots x).strip (NI c false tk)|_=>ρ) σ (n0+8*i) o with
   |none=>none
   |some r=>gT draw tk g r λu=>bif O8 σ (n0+8*i) u then
    MK E all draw n0 rest (i+1) {slots:=K4 st.slots o.dst (NJ tk g u.sv),sto:=EK st.sto u.wr,n:=st.n}
     ((u.far (n0+8*i),c)::cl) K
     else none
def TG(all:Array Oper):Bool:=(List.range all.size).all λi=>match(all.getD i default).guard with
 |some (j,_)=>Nat.blt j i
 |none=>true
def QO(E:Env):List Oper->St->St
 |[],st=>st
 |o::r,st=>match o.op,o.dst with
  | .load _ a,some d=>match bif E.wr d then X1 st.sto st.n (GF st.slots a) (st.slots d)else none with
   |some u=>QO E r {slots:=st.slots,sto:=EK st.sto u,n:=st.n+1}
   |none=>QO E r st
  |_,_=>QO E r st
def gU(E:Env)(ops:Array Oper)(draw:Bool)(st:St)(K:St->Option Ω):Option Ω:=
 bif J9 ops && !(J5 (XG ops)&&TG ops)then none else
 MK E ops draw st.n ops.toList 0 st [] λst' cl=>
  bif !draw||TE ops cl.reverse then
   K {slots:=bif J9 ops then TF st'.slots else st'.slots,sto:=st'.sto,n:=st.n+8*ops.size}
  else none
def tI(E:Env)(ops:Array Oper)(draw:Bool)(st:St)(K:St->Option Ω):Option Ω:=gU E ops draw st λst'=>K (QO E ops.toList.reverse st')
def IS:Code->Nat
 | .seq a b=>IS a+IS b
 | .cond _ a b=>1+(IS a+IS b)
 | .block _ b=>IS b
 | .loop b=>1+IS b
 |_=>0
noncomputable def tJ(E:Env)(c:CSpec)(x:KX)(st:St)(K:Ex->St->Option Ω):Option Ω:=match bif LB c.wrs x.kn&&LC x then WU c.inn x st else none with
 |some vs=>match J6 E.fs (LY st.sto c.inn.sh vs) c.inn.sh vs with
  |some v=>Option.bind (c.F v) λy=>fP (fQ c.inn vs st) c.wrs (G5 (LY st.sto c.inn.sh vs) c.inn.sh vs) x c.outs y K
  |none=>none
 |none=>none
noncomputable def TH(E:Env)(c:CSpec)(st:St)(K:Ex->St->Option Ω):Option Ω:=match c.kx with
 |some x=>tJ E c x st K
 |none=>match bif MJ c.al st.slots then LX E.fs c.inn (IR c.inn st)else none with
 |some v=>match c.nd with
  |none=>Option.bind (c.F v) λx=>SP (IR c.inn st) c.wrs (G5 (IR c.inn st).sto c.inn.sh (c.inn.tm.map st.slots)) c.outs x λe st'=>K e (SO c.al c.wrs st')
  |some d=>NB (d.S v) λo=>Option.bind (d.F v o) λx=>SP (IR c.inn st) c.wrs (G5 (IR c.inn st).sto c.inn.sh (c.inn.tm.map st.slots)) c.outs x λe st'=>K e (SO c.al c.wrs st')
 |none=>none
def gV(E:Env):Code->Option CSpec
 | .region id _ _=>E.cut (1000000+id)
 |_=>none
noncomputable def IT(E:Env):Code->Nat->St->(Ex->St->Option Ω)->Option Ω
 | .skip,_,st,K=>K .normal st
 | .region _ ops draw,_,st,K=>tI E ops draw st (K .normal)
 | .seq a b,n,st,K=>match gV E a with
  |some s=>TH E s st K
  |none=>IT E a n st λe st'=>match e with
   | .normal=>IT E b (n+IS a) st' K
   |e=>K e st'
 | .cond c a b,n,st,K=>match E.cut n with
  |some s=>TH E s st K
  |none=>match GF st.slots c with
   | .val .bool t=>cond t (IT E a (n+1) st K) (IT E b (n+1+IS a) st K)
   |_=>none
 | .block id b,n,st,K=>IT E b n st λe st'=>match e with
  | .exit i=>bif Nat.beq i id then K .normal st' else K (.exit i) st'
  |e=>K e st'
 | .loop _,n,st,K=>match E.cut n with
  |some s=>TH E s st K
  |none=>none
 | .exit id,_,st,K=>K (.exit id) st
 | .ret,_,st,K=>K .ret st
 |_,_,_,_=>none
end
def outPut(fs:Nat->Option FSpec):(l:List (Ex×Kp))->Ex->St->Option (GN l)
 |[],_,_=>none
 |[o],e,st=>bif sameEx o.1 e then LX fs o.2 (IR o.2 st)else none
 |o::p::r,e,st=>bif sameEx o.1 e then(LX fs o.2 (IR o.2 st)).map Sum.inl else(outPut fs (p::r) e st).map Sum.inr
 where sameEx:Ex->Ex->Bool
 | .normal,.normal=>true
 | .exit i,.exit j=>Nat.beq i j
 | .ret,.ret=>true
 |_,_=>false
noncomputable def gW(E:Env)(body:Code)(n:Nat)(al:List (Nat×Nat))(inn:Kp)(outs:List (Ex×Kp))(next:TupR inn.sh->Option (GN outs))(v:TupR inn.sh):Option (GN outs):=
 IT E body n (PW al inn v) λe st=>match e with
  | .normal=>match bif MJ al st.slots then LX E.fs inn (IR inn st)else none with
   |some w=>next w
   |none=>none
  |e=>outPut E.fs outs e st
def O9(fs:Nat->Option FSpec)(x:KX):(l:List (Ex×Kp))->Ex->St->Option (GN l)
 |[],_,_=>none
 |[o],e,st=>bif outPut.sameEx o.1 e then O6 fs o.2 x st else none
 |o::p::r,e,st=>bif outPut.sameEx o.1 e then(O6 fs o.2 x st).map Sum.inl else(O9 fs x (p::r) e st).map Sum.inr
noncomputable def A82(E:Env)(body:Code)(n:Nat)(x:KX)(inn:Kp)(outs:List (Ex×Kp))(next:TupR inn.sh->Option (GN outs))(v:TupR inn.sh):Option (GN outs):=
 IT E body n (QA inn x v) λe st=>match e with
  | .normal=>match O6 E.fs inn x st with
   |some w=>next w
   |none=>none
  |e=>O9 E.fs x outs e st
noncomputable def XH(E:Env)(c:Operand)(a b:Code)(n:Nat)(al:List (Nat×Nat))(inn:Kp)(outs:List (Ex×Kp))(v:TupR inn.sh):Option (GN outs):=
 match GF (PW al inn v).slots c with
 | .val .bool t=>cond t (IT E a (n+1) (PW al inn v) (outPut E.fs outs)) (IT E b (n+1+IS a) (PW al inn v) (outPut E.fs outs))
 |_=>none
def L_(ty:Nat->Option Ty)(wr:Nat->Bool)(st:St):List ResultVar->Option (List SV)
 |[]=>some []
 | .tmp t::r=>match L_ ty wr st r with
  |some l=>some (st.slots t::l)
  |none=>none
 | .cell a t::r=>match ty t with
  |some u=>match bif wr a then QF st.sto u (st.slots a)else loadAt st.sto u (st.slots a)with
   |some s=>match L_ ty wr st r with
    |some l=>some (s::l)
    |none=>none
   |none=>none
  |none=>none
def GW:List Sh->List SV->List SV
 | .box _::ps,v::vs=>v::GW ps vs
 | .io _ _::ps,v::vs=>v::GW ps vs
 | .bld _ false::ps,v::vs=>v::GW ps vs
 |_::ps,_::vs=>GW ps vs
 |_,_=>[]
def XI(wr:Nat->Bool)(st:St):List ResultVar->List Nat
 |[]=>[]
 | .tmp _::r=>XI wr st r
 | .cell a _::r=>(bif wr a then []else tH st.sto (st.slots a))++XI wr st r
def KQ(wr:Nat->Bool)(st:St)(l:List ResultVar):St:={slots:=st.slots,sto:=EK st.sto (LA st.sto (XI wr st l)),n:=st.n}
noncomputable def XJ(E:Env)(fn:Func)(ps rs:List Sh)(v:TupR ps):Option (TupR (rs++ps.filter EU)):=
 let k:Kp:=⟨List.range ps.length,ps⟩
 let st0:=H9 k v
 let fin:St->Option (TupR (rs++ps.filter EU)):=λst0=>
  let st:=KQ E.wr st0 fn.results.toList
  match L_ E.ty E.wr st fn.results.toList with
  |some l=>J6 E.fs (LY st.sto (rs++ps.filter EU) (l++GW ps ((List.range ps.length).map st.slots))) (rs++ps.filter EU) (l++GW ps ((List.range ps.length).map st.slots))
  |none=>none
 match fn.body with
 |some b=>IT E b 0 st0 λe st=>match e with
  | .normal=>fin st
  | .ret=>fin st
  | .exit _=>none
 |none=>none
noncomputable def tK(E:Env)(fn:Func)(ps rs:List Sh)(n:Nat)(x:KX)(v:TupR ps):Option (TupR (rs++ps.filter EU)):=
 let k:Kp:=⟨List.range n,ps⟩
 let st0:=QA k x v
 let fin:St->Option (TupR (rs++ps.filter EU)):=λst0=>
  let st:=KQ E.wr st0 fn.results.toList
  match L_ E.ty E.wr st fn.results.toList with
  |some l=>match SX k x st with
   |some vs=>J6 E.fs (LY st.sto (rs++ps.filter EU) (l++GW ps vs)) (rs++ps.filter EU) (l++GW ps vs)
   |none=>none
  |none=>none
 match fn.body with
 |some b=>IT E b 0 st0 λe st=>match e with
  | .normal=>fin st
  | .ret=>fin st
  | .exit _=>none
 |none=>none
structure Im where
 cell:Nat->Nat->Prop
 obj:Nat->Prop
structure Row(w:World)(I:Im)(b o n:Nat)(cs:List Value):Prop where
 len:cs.length=n
 at_:∀j,j<n->I.cell b (o+j)/\w.cell? ⟨b,o+j,none⟩=cs[j]?
def I9(t:Ty)(v:Value)(cs:List Value):Prop:=match t with
 | .agg _=>v=.agg cs.toArray
 | .arr _ _=>v=.agg cs.toArray
 |_=>cs=[v]
def G6(k:IntKind)(n:Int):Prop:=k.min<=n/\n<=k.max
def GL(n cap:Nat):Prop:=n<=cap/\n<=281474976710656
structure Ext(w:World)(I:Im)(w':World)(I':Im):Prop where
 cell:∀b o,I.cell b o->I'.cell b o/\w'.cell? ⟨b,o,none⟩=w.cell? ⟨b,o,none⟩
 obj:∀b,I.obj b->I'.obj b/\w'.heap[b]?=w.heap[b]?
theorem Ext.refl(w:World)(I:Im):Ext w I w I:=⟨λ_ _ h=>⟨h,rfl⟩,λ_ h=>⟨h,rfl⟩⟩
theorem Ext.trans{w w' w'':World}{I I' I'':Im}(h:Ext w I w' I')(k:Ext w' I' w'' I''):Ext w I w'' I'':=
 ⟨λb o hb=>⟨(k.cell b o (h.cell b o hb).1).1,(k.cell b o (h.cell b o hb).1).2.trans (h.cell b o hb).2⟩,
  λb hb=>⟨(k.obj b (h.obj b hb).1).1,(k.obj b (h.obj b hb).1).2.trans (h.obj b hb).2⟩⟩
class Pins where
 P:Program
 ok:World->Im->Prop
 ext:∀{w w':World} {I I':Im},ok w I->Ext w I w' I'->ok w' I'
variable [Pins]
def Pinned(w:World)(I:Im):Prop:=Pins.ok w I
theorem Pinned.ext{w w':World}{I I':Im}(h:Pinned w I)(e:Ext w I w' I'):Pinned w' I':=Pins.ext h e
structure After(gv:Nat->Prop)(w:World)(I:Im)(w':World)(I':Im):Prop where
 ext:Ext w I w' I'
 heap:∀b,b<w.heap.size->¬gv b->w'.heap[b]?=w.heap[b]?
 size:w.heap.size<=w'.heap.size
 newC:∀b o,I'.cell b o->I.cell b o\/w.heap.size<=b\/gv b
 newO:∀b,I'.obj b->I.obj b\/w.heap.size<=b\/gv b
 inC:∀b o,I'.cell b o->b<w'.heap.size
 inO:∀b,I'.obj b->b<w'.heap.size
 os:w'.os=w.os
 tape:w'.tape=w.tape
 output:w'.output=w.output
 pins:Pinned w' I'
def GM(w:World)(I:Im):Prop:=(∀b o,I.cell b o->b<w.heap.size)/\(∀b,I.obj b->b<w.heap.size)/\Pinned w I
theorem After.refl{gv:Nat->Prop}{w:World}{I:Im}(h:GM w I):After gv w I w I:=
 ⟨Ext.refl _ _,λ_ _ _=>rfl,AB _,λ_ _ h=>.inl h,λ_ h=>.inl h,h.1,h.2.1,rfl,rfl,rfl,h.2.2⟩
def QP:Nat->Prop:=λ_=>False
theorem After.mono{gv gv':Nat->Prop}{w w':World}{I I':Im}(h:After gv w I w' I')(hg:∀b,gv b->gv' b):After gv' w I w' I':=
 ⟨h.ext,λb hb hn=>h.heap b hb (λk=>hn (hg b k)),h.size,λb o k=>(h.newC b o k).imp id (Or.imp id (hg b)),
  λb k=>(h.newO b k).imp id (Or.imp id (hg b)),h.inC,h.inO,h.os,h.tape,h.output,h.pins⟩
theorem After.mem{gv:Nat->Prop}{w w':World}{I I':Im}(h:After gv w I w' I'):GM w' I':=⟨h.inC,h.inO,h.pins⟩
theorem After.trans{gv gv':Nat->Prop}{w w' w'':World}{I I' I'':Im}(h:After gv w I w' I')(k:After gv' w' I' w'' I'')
 (hg:∀b,gv' b->gv b\/w.heap.size<=b):After gv w I w'' I'':=
 ⟨h.ext.trans k.ext,
  λb hb hn=>(k.heap b (B0 hb h.size) (λhk=>(hg b hk).elim hn (λhs=>absurd hb (Nat.not_lt.2 hs)))).trans (h.heap b hb hn),
  AU h.size k.size,
  λb o hc=>by
   rcases k.newC b o hc with h1|h1|h1
   .exact h.newC b o h1
   .exact .inr (.inl (AU h.size h1))
   .rcases hg b h1 with h2|h2
    .exact .inr (.inr h2)
    .exact .inr (.inl h2),
  λb hc=>by
   rcases k.newO b hc with h1|h1|h1
   .exact h.newO b h1
   .exact .inr (.inl (AU h.size h1))
   .rcases hg b h1 with h2|h2
    .exact .inr (.inr h2)
    .exact .inr (.inl h2),
  k.inC,k.inO,k.os.trans h.os,k.tape.trans h.tape,k.output.trans h.output,k.pins⟩
def F6(P:Program)(f:Nat):Prop:=∃fn c,P.funcs[f]?=some fn/\(fn.name== "runtime.NumGoroutine")=false/\fn.body=some c
def XK:Ty->List Value->List Value->Prop
 | .prod a b,l,cs=>∃v r c d,l=v::r/\cs=c++d/\c.length=a.sz/\I9 a v c/\XK b r d
 |t,l,cs=>∃v,l=[v]/\I9 t v cs
def tL(c:Ty)(rv:Value)(cs:List Value):Prop:=match c with
 | .prod a b=>∃vs:Array Value,rv=.tuple vs/\XK (.prod a b) vs.toList cs
 |t=>I9 t rv cs
def Rel(w:World)(I:Im):(t:Ty)->t.T->List Value->Prop
 | .unit,_,cs=>cs=[]
 | .bool,x,cs=>cs=[.bool x]
 | .int k,n,cs=>cs=[.int k n]/\G6 k n
 | .str,s,cs=>cs=[.string ⟨s.toArray⟩]/\(show List UInt8 from s).length<=281474976710656
 | .slice e,xs,cs=>∃a cap,cs=[.slice a (show List e.T from xs).length cap]/\GL (show List e.T from xs).length cap/\
  (a=none->(show List e.T from xs)=[]/\cap=0)/\
  ∀ad,a=some ad->(cap≠0->ad.spot=none)/\∀i x,(show List e.T from xs)[i]?=some x->∃c,Row w I ad.block (ad.off+i*e.sz) e.sz c/\Rel w I e x c
 | .agg t,x,cs=>Rel w I t x cs
 | .prod a b,x,cs=>∃c d,cs=c++d/\Rel w I a x.1 c/\Rel w I b x.2 d
 | .arr n e,xs,cs=>(show List e.T from xs).length=n∧cs.length=n*e.sz∧
  ∀i x,(show List e.T from xs)[i]?=some x->Rel w I e x ((cs.drop (i*e.sz)).take e.sz)
 | .ptr e,x,cs=>match(show Option e.T from x)with
  |none=>cs=[.pointer none]
  |some y=>∃ad,cs=[.pointer (some ad)]/\ad.spot=none/\∃c,Row w I ad.block ad.off e.sz c/\Rel w I e y c
 | .map k v,es,cs=>∃r,cs=[.map r]∧(r=none→(show List (k.T×v.T)from es)=[])∧
  ∀b,r=some b->I.obj b/\∃ents clock,w.heap[b]?=some (.map ents clock)/\(ents.size=(show List (k.T×v.T)from es).length/\Go.MapKept.Stamped ents clock)/\
   ∀(i:Nat) (x:k.T×v.T) (e:MapEntry),(show List (k.T×v.T)from es)[i]?=some x->ents[i]?=some e->
    (∃c,I9 k e.key c/\Rel w I k x.1 c)/\(∃c,I9 v e.val c/\Rel w I v x.2 c)
 | .inil,_,cs=>cs=[.nilIface]
 | .ialt id t r,x,cs=>match(show Sum t.T r.T from x)with
  | .inl y=>∃v c,cs=[.iface id v]/\I9 t v c/\Rel w I t y c
  | .inr z=>cs.length=1/\Rel w I r z cs
 | .self,_,cs=>cs=[.pointer none]
 | .opq,_,cs=>∃v,cs=[v]/\v.oneCell'=true
 | .fnc d c,F,cs=>match(show Option (d.T->Option c.T)from F)with
  |none=>cs=[.nilFunc]
  |some F=>∃f vs,cs=[.func (.func f) #[] vs]/\F6 Pins.P f/\∀w' I',Ext w I w' I'->GM w' I'->∀(x:d.T) (l ac:List Value),XK d l ac->Rel w' I' d x ac->∀y,F x=some y->
    Calls Pins.P f (l.toArray++vs) w' λe w''=>∃rv I'' rc,e=.returned rv/\After QP w' I' w'' I''/\tL c rv rc/\Rel w'' I'' c y rc
def VRel(w:World)(I:Im)(t:Ty)(x:t.T)(v:Value):Prop:=∃c,I9 t v c/\Rel w I t x c
section
variable{w w':World}{I I':Im}
theorem Row.ext{b o n:Nat}{cs:List Value}(h:Row w I b o n cs)(e:Ext w I w' I'):Row w' I' b o n cs:=
 ⟨h.len,λj hj=>⟨(e.cell _ _ (h.at_ j hj).1).1,(e.cell _ _ (h.at_ j hj).1).2.trans (h.at_ j hj).2⟩⟩
theorem Rel.ext(e:Ext w I w' I'):∀{t:Ty} {x:t.T} {cs:List Value},Rel w I t x cs->Rel w' I' t x cs:=by
 intro t;induction t with
 |unit=>intro x cs h;exact h
 |bool=>intro x cs h;exact h
 |int k=>intro x cs h;exact h
 |str=>intro x cs h;exact h
 |slice s ih=>
  intro x cs h;obtain⟨a,cap,h1,h2,h3,h4⟩:=h;refine⟨a,cap,h1,h2,h3,λad had=>⟨(h4 ad had).1,λi y hy=>?_⟩⟩;obtain⟨c,hc,hr⟩:=(h4 ad had).2 i y hy;exact⟨c,hc.ext e,ih hr⟩
 |agg s ih=>intro x cs h;exact ih (show Rel w I s x cs from h)
 |prod a b iha ihb=>
  intro x cs h;obtain⟨c,d,h1,h2,h3⟩:=h;exact⟨c,d,h1,iha h2,ihb h3⟩
 |arr n s ih=>
  intro x cs h;obtain⟨h1,h2,h3⟩:=h;exact⟨h1,h2,λi y hy=>ih (h3 i y hy)⟩
 |ptr s ih=>
  intro x cs h;cases x with
  |none=>exact h
  |some y=>
   obtain⟨ad,h1,h2,c,h3,h4⟩:=h;exact⟨ad,h1,h2,c,h3.ext e,ih h4⟩
 |map k v ihk ihv=>
  intro x cs h;obtain⟨r,h1,h2,h3⟩:=h;refine⟨r,h1,h2,λb hb=>?_⟩;obtain⟨hi,ents,clock,h4,h5,h6⟩:=h3 b hb;refine⟨(e.obj b hi).1,ents,clock,(e.obj b hi).2.trans h4,h5,λi y en hy hen=>?_⟩;obtain⟨⟨c,hc,hr⟩,⟨d,hd,hs⟩⟩:=h6 i y en hy hen;exact⟨⟨c,hc,ihk hr⟩,⟨d,hd,ihv hs⟩⟩
 |inil=>intro x cs h;exact h
 |self=>intro x cs h;exact h
 |opq=>intro x cs h;exact h
 |fnc d c _ _=>
  intro x cs h;cases x with
  |none=>exact h
  |some F=>
   obtain⟨f,vs,h1,h2,h3⟩:=h;exact⟨f,vs,h1,h2,λw1 I1 he hm x l ac k1 k2 y hy=>h3 w1 I1 (e.trans he) hm x l ac k1 k2 y hy⟩
 |ialt id t r iht ihr=>
  intro x cs h;cases x with
  |inl y=>
   obtain⟨v,c,h1,h2,h3⟩:=h;exact⟨v,c,h1,h2,iht h3⟩
  |inr z=>exact⟨h.1,ihr h.2⟩
theorem VRel.ext{t:Ty}{x:t.T}{v:Value}(h:VRel w I t x v)(e:Ext w I w' I'):VRel w' I' t x v:=
 let ⟨c,h1,h2⟩:=h;⟨c,h1,h2.ext e⟩
theorem Rel.length:∀{t:Ty} {x:t.T} {cs:List Value},Rel w I t x cs->cs.length=t.sz:=by
 intro t;induction t with
 |unit=>intro x cs h;rw[show cs=[]from h];rfl
 |bool=>intro x cs h;rw[show cs=[.bool x]from h];rfl
 |int k=>intro x cs h;rw[show cs=_ from h.1];rfl
 |str=>intro x cs h;rw[show cs=_ from h.1];rfl
 |slice s ih=>intro x cs h;obtain⟨a,cap,h1,_⟩:=h;rw[h1];rfl
 |agg s ih=>intro x cs h;exact ih (show Rel w I s x cs from h)
 |prod a b iha ihb=>
  intro x cs h;obtain⟨c,d,h1,h2,h3⟩:=h;rw[h1,A6,iha h2,ihb h3];rfl
 |arr n s ih=>intro x cs h;exact h.2.1
 |ptr s ih=>
  intro x cs h;cases x with
  |none=>rw[show cs=_ from h];rfl
  |some y=>obtain⟨ad,h1,_⟩:=h;rw[h1];rfl
 |map k v ihk ihv=>intro x cs h;obtain⟨r,h1,_⟩:=h;rw[h1];rfl
 |inil=>intro x cs h;rw[show cs=_ from h];rfl
 |self=>intro x cs h;rw[show cs=_ from h];rfl
 |opq=>intro x cs h;obtain⟨v,h1,_⟩:=h;rw[h1];rfl
 |fnc d c _ _=>
  intro x cs h;cases x with
  |none=>rw[show cs=_ from h];rfl
  |some F=>obtain⟨f,vs,h1,_⟩:=h;rw[h1];rfl
 |ialt id t r iht ihr=>
  intro x cs h;cases x with
  |inl y=>obtain⟨v,c,h1,_⟩:=h;rw[h1];rfl
  |inr z=>exact h.1
end
def zc:Ty->List Value->Option (List Value)
 | .unit,l=>some l
 | .bool,l=>match l with| .bool false::r=>some r|_=>none
 | .int k,l=>match l with| .int k' n::r=>if L9 k k'&&n==0 then some r else none|_=>none
 | .str,l=>match l with| .string s::r=>if s.data.toList.length==0 then some r else none|_=>none
 | .slice _,l=>match l with| .slice none 0 0::r=>some r|_=>none
 | .agg t,l=>zc t l
 | .prod a b,l=>match zc a l with|some r=>zc b r|none=>none
 | .arr n e,l=>Nat.rec (motive:=λ_=>List Value->Option (List Value)) some (λ_ ih l=>match zc e l with|some r=>ih r|none=>none) n l
 | .ptr _,l=>match l with| .pointer none::r=>some r|_=>none
 | .map _ _,l=>match l with| .map none::r=>some r|_=>none
 | .inil,l=>match l with| .nilIface::r=>some r|_=>none
 | .self,l=>match l with| .pointer none::r=>some r|_=>none
 | .opq,l=>match l with|v::r=>if v.oneCell'=true then some r else none|_=>none
 | .fnc _ _,l=>match l with| .nilFunc::r=>some r|_=>none
 | .ialt _ _ q,l=>if q.isIface=true then(match l with| .nilIface::r=>some r|_=>none)else none
def NK(t:Ty)(l:List Value):Bool:=match zc t l with
 |some []=>true
 |_=>false
def zv(t:Ty)(v:Value):Bool:=match t with
 | .agg t=>match v with| .agg cs=>NK t cs.toList|_=>false
 | .arr n e=>match v with| .agg cs=>NK (.arr n e) cs.toList|_=>false
 |t=>match v with| .agg _=>false|v=>NK t [v]
def tM(P:Program)(id:Nat):Bool:=Nat.blt id P.types.size&&(match P.info? id with
 |some i=>match i.desc with| .named ..=>true|_=>false
 |none=>false)
def OA(P:Program)(t:Ty)(id:Nat):Bool:=(match P.info? id with
 |some i=>Nat.beq i.size t.sz&&(Nat.ble i.bytes (24*t.sz)&&(match i.zero with|some v=>zv t v|none=>false))
 |none=>false)&&(!(t.same (.agg GG))||tM P id)
def layB(P:Program):Ty->(Nat->Bool)×(List Field->Nat->Bool)
 | .prod a b=>(λ_=>false,λl off=>match l with
  |f::r=>Nat.beq f.offset off&&((layB P a).1 f.type&&((layB P b).2 r (off+a.sz)&&Nat.blt 0 b.fields))
  |[]=>false)
 | .unit=>(λ_=>false,λl _=>match l with|[]=>true|_=>false)
 | .bool=>one .bool λd=>match d with| .bool=>true|_=>false
 | .int k=>one (.int k) λd=>match d with| .int k'=>L9 k k'|_=>false
 | .str=>one .str λd=>match d with| .string=>true|_=>false
 | .slice e=>one (.slice e) λd=>match d with| .slice el=>(layB P e).1 el&&Nat.blt 0 e.sz|_=>false
 | .agg p=>one (.agg p) λd=>match d with| .struct fs=>(layB P p).2 fs.toList 0&&Nat.blt 0 p.sz|_=>false
 | .arr n e=>one (.arr n e) λd=>match d with| .array m el=>Nat.beq n m&&((layB P e).1 el&&(Nat.blt 0 e.sz&&Nat.blt 1 n))|_=>false
 | .ptr e=>one (.ptr e) λd=>match d with| .pointer el=>(layB P e).1 el|_=>false
 | .map k v=>one (.map k v) λd=>match d with| .map a b=>(layB P k).1 a&&(layB P v).1 b|_=>false
 | .inil=>one .inil λd=>match d with| .interface _=>true|_=>false
 | .self=>one .self λd=>match d with| .pointer _=>true|_=>false
 | .opq=>one .opq λd=>match d with| .pointer _=>true| .slice _=>true| .map _ _=>true| .func _ _ _=>true|_=>false
 | .fnc a b=>one (.fnc a b) λd=>match d with| .func _ _ _=>true|_=>false
 | .ialt i t r=>one (.ialt i t r) λd=>match d with| .interface _=>(Ty.isIface (.ialt i t r))|_=>false
 where
 one (t:Ty) (c:TypeDesc->Bool):(Nat->Bool)×(List Field->Nat->Bool):=
  let base:=λid=>OA P t id&&(match P.underlying id with|some d=>c d|none=>false)
  (base,λl off=>match l with|[f]=>Nat.beq f.offset off&&base f.type|_=>false)
def Lay(P:Program)(t:Ty)(id:Nat):Prop:=(layB P t).1 id=true
theorem Ty.sz_bare(t:Ty):t.bare.sz=t.sz:=by cases t<;>rfl
def LG(t:Ty)(p:List Bool)(u:Ty):Prop:=∃u',t.sub p=some u'/\u'.bare=u.bare
structure Gh where
 im:Im
 val:Nat->Nat->Option Value
 ety:Nat->Option Ty
 box:Nat->Option (Nat×Ty)
variable [Pins]
def ArgsV(w:World)(I:Im):(d:Ty)->d.T->List Value->Prop
 | .prod a b,x,l=>∃v r,l=v::r/\VRel w I a x.1 v/\ArgsV w I b x.2 r
 |t,x,l=>∃v,l=[v]/\VRel w I t x v
def RetV(w:World)(I:Im):(c:Ty)->c.T->Value->Prop
 | .prod a b,y,rv=>∃vs:Array Value,rv=.tuple vs/\ArgsV w I (.prod a b) y vs.toList
 |t,y,rv=>VRel w I t y rv
theorem gX{w:World}{I:Im}:∀{d:Ty} {x:d.T} {l:List Value},ArgsV w I d x l<->∃ac,XK d l ac/\Rel w I d x ac:=by
 intro d;induction d with
 |prod a b iha ihb=>
  intro x l;constructor
  .rintro⟨v,r,rfl,⟨c,h1,h2⟩,h3⟩;obtain⟨ac,h4,h5⟩:=ihb.1 h3;exact⟨c++ac,⟨v,r,c,ac,rfl,rfl,h2.length,h1,h4⟩,c,ac,rfl,h2,h5⟩
  .rintro⟨ac,⟨v,r,c,e,rfl,rfl,h1,h2,h3⟩,c',e',h4,h5,h6⟩;obtain⟨rfl,rfl⟩:=List.append_inj h4 (by rw[h1,h5.length]);exact⟨v,r,rfl,⟨c,h2,h5⟩,ihb.2 ⟨e,h3,h6⟩⟩
 |_=>
  intro x l;constructor
  .rintro⟨v,rfl,c,h1,h2⟩;exact⟨c,⟨v,rfl,h1⟩,h2⟩
  .rintro⟨ac,⟨v,rfl,h1⟩,h2⟩;exact⟨v,rfl,ac,h1,h2⟩
theorem A83{w:World}{I:Im}:∀{c:Ty} {y:c.T} {rv:Value},RetV w I c y rv<->∃rc,tL c rv rc/\Rel w I c y rc:=by
 intro c y rv;cases c with
 |prod a b=>
  constructor
  .rintro⟨vs,rfl,h⟩;obtain⟨ac,h1,h2⟩:=gX.1 h;exact⟨ac,⟨vs,rfl,h1⟩,h2⟩
  .rintro⟨rc,⟨vs,rfl,h1⟩,h2⟩;exact⟨vs,rfl,gX.2 ⟨rc,h1,h2⟩⟩
 |_=>exact Iff.rfl
theorem RetV.one{w:World}{I:Im}{c:Ty}{y:c.T}{rv:Value}(hc:∀a b,c≠.prod a b):RetV w I c y rv<->VRel w I c y rv:=by
 cases c<;>first|exact Iff.rfl|exact absurd rfl (hc _ _)
def HofD(P:Program)(D:Prop)(w:World)(I:Im)(d c:Ty)(F:d.T->Option c.T)(f:Nat)(vs:Array Value):Prop:=
 F6 P f/\∀w' I',Ext w I w' I'->GM w' I'->∀x (l:List Value),ArgsV w' I' d x l->∀y,F x=some y->
  Calls P f (l.toArray++vs) w' λe w''=>∃rv I'',e=.returned rv/\After QP w' I' w'' I''/\RetV w'' I'' c y rv/\(D->w'.drawn<=w''.drawn)
theorem HofD.fnc{w:World}{I:Im}{d c:Ty}{F:d.T->Option c.T}{f:Nat}{vs:Array Value}{D:Prop}(h:HofD Pins.P D w I d c F f vs):
 Rel w I (.fnc d c) (some F:Option (d.T->Option c.T)) [.func (.func f) #[] vs]:=
 ⟨f,vs,rfl,h.1,λw' I' he hm x l ac k1 k2 y hy=>(h.2 w' I' he hm x l (gX.2 ⟨ac,k1,k2⟩) y hy).mono λ_ _ ⟨rv,I'',q1,q2,q3,_⟩ =>
  let ⟨rc,r1,r2⟩:=A83.1 q3
  ⟨rv,I'',rc,q1,q2,r1,r2⟩⟩
def TI:SV->Value->List Value->Prop
 | .val t _,v,c=>I9 t v c
 |_,v,c=>c=[v]
def Fit:SV->Ty->Prop
 | .val u _,t=>u.bare=t.bare
 | .pr a b,t=>∃x y,t.bare=.prod x y/\Fit a x/\Fit b y
 | .obj _ _,t=>t.sz=1
 | .ptr _ _ _,t=>t.sz=1
 | .nilS,t=>t.sz=1
 | .nns _ _,t=>t.sz=1
 | .fn _ _,t=>t.sz=1
 | .hof _ _ _ _,t=>t.sz=1
 | .slf _,t=>t.sz=1
 |_,_=>False
def CR(P:Program)(w:World)(G:Gh):SV->List Value->Prop
 | .undef,_=>True
 | .val t x,cs=>Rel w G.im t x cs
 | .nilS,cs=>cs=[.slice none 0 0]
 | .nilI,cs=>cs=[.nilIface]
 | .nilP,cs=>cs=[.pointer none]
 | .nilM,cs=>cs=[.map none]
 | .nilF,cs=>cs=[.nilFunc]
 | .nns e x,cs=>Rel w G.im (.slice e) x cs/\∃ad len cap,cs=[.slice (some ad) len cap]
 | .pr a b,cs=>∃c d,cs=c++d/\CR P w G a c/\CR P w G b d
 | .obj k g,cs=>∃v,G.val k g=some v/\v.oneCell'=true/\cs=[v]
 | .ptr k p u,cs=>∃b t o,G.box k=some (b,t)/\t.off p=some o/\LG t p u/\cs=[.pointer (some ⟨b,o,none⟩)]
 | .ptri k p i q u,cs=>∃b t o n e o',G.box k=some (b,t)/\t.off p=some o/\LG t p (.arr n e)/\i<n/\e.off q=some o'/\LG e q u/\
  cs=[.pointer (some ⟨b,o+i*e.sz+o',none⟩)]
 | .elem k g i q u,cs=>∃b o len cap e o',G.val k g=some (.slice (some ⟨b,o,none⟩) len cap)/\G.ety k=some e/\i<len/\e.off q=some o'/\LG e q u/\
  cs=[.pointer (some ⟨b,o+i*e.sz+o',none⟩)]
 | .ref t x,cs=>∃ad c,cs=[.pointer (some ad)]/\ad.spot=none/\Row w G.im ad.block ad.off t.sz c/\Rel w G.im t x c
 | .lnS n,cs=>∃a cap,cs=[.slice a n cap]/\n<=281474976710656
 | .rf0 t x,cs=>∃b c,cs=[.pointer (some ⟨b,0,none⟩)]/\Row w G.im b 0 t.sz c/\Rel w G.im t x c
 | .fn f caps,cs=>∃vs:Array Value,cs=[.func (.func f) #[] vs]/\CR P w G caps vs.toList
 | .hof nd d c F,cs=>∃f vs,cs=[.func (.func f) #[] vs]/\HofD P (nd=true) w G.im d c F f vs
 | .snil,cs=>cs=[]
 | .scons a b,cs=>∃v r,cs=v::r/\(∃c,TI a v c/\CR P w G a c)/\CR P w G b r
 | .tup l,cs=>∃vs:Array Value,cs=[.tuple vs]/\CR P w G l vs.toList
 | .grd _ _ _,_=>False
 | .bt t c,cs=>∃cs',cs=[.agg cs'.toArray]/\(∃a b,t=.agg (.prod a b)/\Fit c (.prod a b))/\(∀x∈cs',x.oneCell'=true)/\CR P w G c cs'
 | .slf k,cs=>∃b t,G.box k=some (b,t)/\(cs=[.pointer none]\/cs=[.pointer (some ⟨b,0,none⟩)])
def SR(P:Program)(w:World)(G:Gh)(s:SV)(v:Value):Prop:=∃c,TI s v c/\CR P w G s c
structure GLe(w:World)(G:Gh)(w':World)(G':Gh):Prop where
 ext:Ext w G.im w' G'.im
 val:∀k g v,G.val k g=some v->G'.val k g=some v
 ety:∀k t,G.ety k=some t->G'.ety k=some t
 box:∀k b,G.box k=some b->G'.box k=some b
theorem GLe.refl(w:World)(G:Gh):GLe w G w G:=⟨Ext.refl _ _,λ_ _ _ h=>h,λ_ _ h=>h,λ_ _ h=>h⟩
theorem GLe.trans{w w' w'':World}{G G' G'':Gh}(h:GLe w G w' G')(k:GLe w' G' w'' G''):GLe w G w'' G'':=
 ⟨h.ext.trans k.ext,λa b c d=>k.val _ _ _ (h.val a b c d),λa b c=>k.ety _ _ (h.ety a b c),λa b c=>k.box _ _ (h.box a b c)⟩
section
variable{P:Program}{w w':World}{G G':Gh}
theorem CR.mono(e:GLe w G w' G'):∀{s:SV} {cs:List Value},CR P w G s cs->CR P w' G' s cs:=by
 intro s;induction s with
 |undef=>intro cs h;trivial
 |val t x=>intro cs h;exact Rel.ext e.ext (show Rel w G.im t x cs from h)
 |nilS=>intro cs h;exact h
 |nilI=>intro cs h;exact h
 |nilP=>intro cs h;exact h
 |nilM=>intro cs h;exact h
 |nilF=>intro cs h;exact h
 |nns t x=>intro cs h;exact⟨Rel.ext e.ext h.1,h.2⟩
 |pr a b iha ihb=>intro cs h;obtain⟨c,d,h1,h2,h3⟩:=h;exact⟨c,d,h1,iha h2,ihb h3⟩
 |obj k g=>intro cs h;obtain⟨v,h1,h2⟩:=h;exact⟨v,e.val _ _ _ h1,h2⟩
 |ptr k p u=>intro cs h;obtain⟨b,t,o,h1,h2⟩:=h;exact⟨b,t,o,e.box _ _ h1,h2⟩
 |ptri k p i q u=>intro cs h;obtain⟨b,t,o,n,el,o',h1,h2⟩:=h;exact⟨b,t,o,n,el,o',e.box _ _ h1,h2⟩
 |elem k g i q u=>intro cs h;obtain⟨b,o,l,c,el,o',h1,h2,h3⟩:=h;exact⟨b,o,l,c,el,o',e.val _ _ _ h1,e.ety _ _ h2,h3⟩
 |ref t x=>intro cs h;obtain⟨ad,c,h1,h2,h3,h4⟩:=h;exact⟨ad,c,h1,h2,h3.ext e.ext,h4.ext e.ext⟩
 |lnS n=>intro cs h;exact h
 |rf0 t x=>intro cs h;obtain⟨b,c,h1,h3,h4⟩:=h;exact⟨b,c,h1,h3.ext e.ext,h4.ext e.ext⟩
 |fn f caps ih=>intro cs h;obtain⟨vs,h1,h2⟩:=h;exact⟨vs,h1,ih h2⟩
 |hof d c F=>
  intro cs h;obtain⟨f,vs,h1,h2⟩:=h;exact⟨f,vs,h1,h2.1,λw1 I1 he hm x l hx y hy=>h2.2 w1 I1 (e.ext.trans he) hm x l hx y hy⟩
 |snil=>intro cs h;exact h
 |scons a b iha ihb=>
  intro cs h;obtain⟨v,r,h1,⟨c,h2,h3⟩,h4⟩:=h;exact⟨v,r,h1,⟨c,h2,iha h3⟩,ihb h4⟩
 |tup l ih=>intro cs h;obtain⟨vs,h1,h2⟩:=h;exact⟨vs,h1,ih h2⟩
 |grd _ _ _ _=>intro cs h;exact h
 |bt t c ih=>intro cs h;obtain⟨cs',h1,h2,h3,h4⟩:=h;exact⟨cs',h1,h2,h3,ih h4⟩
 |slf k=>intro cs h;obtain⟨b,t,h1,h2⟩:=h;exact⟨b,t,e.box _ _ h1,h2⟩
theorem SR.mono{s:SV}{v:Value}(h:SR P w G s v)(e:GLe w G w' G'):SR P w' G' s v:=let ⟨c,h1,h2⟩:=h;⟨c,h1,h2.mono e⟩
end
structure Fr where
 gv:Nat->Prop
 w0:World
 i0:Im
 fx:Nat->Option Value
 dr:Bool
def Fr.owned(fr:Fr)(b:Nat):Prop:=fr.w0.heap.size<=b\/fr.gv b
def RowAt(w:World)(b:Nat)(cs:Array Value)(el:TypeId):Prop:=∃fz:Nat×Nat,w.heap[b]?=some (.cells cs el fz)/\(fz.2<=fz.1\/cs.size<=fz.1/\Pins.P.underlying el=some (.int .u8))
theorem RowAt.of{w:World}{b:Nat}{cs:Array Value}{el:TypeId}(h:w.heap[b]?=some (.cells cs el (0,0))):RowAt w b cs el:=⟨_,h,.inl (AB _)⟩
theorem RowAt.lt{w:World}{b:Nat}{cs:Array Value}{el:TypeId}(h:RowAt w b cs el):b<w.heap.size:=let ⟨_,h1,_⟩:=h;(BC.1 h1).1
theorem RowAt.cell{w:World}{b:Nat}{cs:Array Value}{el:TypeId}(h:RowAt w b cs el)(o:Nat):w.cell? ⟨b,o,none⟩=cs.toList[o]?:=by
 obtain⟨fz,h1,_⟩:=h;simp[World.cell?,h1]
theorem RowAt.keep{w w':World}{b:Nat}{cs:Array Value}{el:TypeId}(h:RowAt w b cs el)(e:w'.heap[b]?=w.heap[b]?):RowAt w' b cs el:=let ⟨fz,h1,h2⟩:=h;⟨fz,e.trans h1,h2⟩
def SlOK(fr:Fr)(w:World)(I:Im)(el:Nat)(t:Ty)(xs:List t.T)(wr:Bool)(v:Value):Prop:=
 (v=.slice none 0 0/\xs=[])\/
 ∃b cap cs,v=.slice (some ⟨b,0,none⟩) xs.length cap/\GL xs.length cap/\RowAt w b cs el/\cs.size=cap*t.sz/\
  (∀i x,xs[i]?=some x->Rel w I t x ((cs.toList.drop (i*t.sz)).take t.sz))/\fr.owned b/\
  (wr=true->∀o,¬I.cell b o)/\(wr=false->∀o,o<xs.length*t.sz<->I.cell b o)/\¬I.obj b
def tN(fr:Fr)(w:World)(I:Im)(k v:Ty)(es:List (k.T×v.T))(wr:Bool)(cv:Value):Prop:=
 ∃b ents clock,cv=.map (some b)/\w.heap[b]?=some (.map ents clock)/\(ents.size=es.length/\Go.MapKept.Stamped ents clock)/\
  (∀(i:Nat) (x:k.T×v.T) (e:MapEntry),es[i]?=some x->ents[i]?=some e->VRel w I k x.1 e.key/\VRel w I v x.2 e.val)/\((wr=true->¬I.obj b)/\(wr=false->I.obj b))/\(∀o,¬I.cell b o)/\fr.owned b
def XL:Value->Value
 | .slice (some ad) _ _=>.map (some ad.block)
 |_=>.map none
def QQ:Option (List Nat)->Nat->Option (List Nat)
 |some (j::p),i=>bif Nat.beq j i then some p else none
 |_,_=>none
def DV(ow:Nat->Prop)(w:World)(I:Im)(t:Ty):(ids:List Nat)->(E4 ids t).T->Option (List Nat)->List Value->List Nat->Prop
 |[],x,_,cs,bs=>bs=[]/\Rel w I t x cs
 |id::r,xs,h,cs,bs=>∃v,cs=[v]/\v.oneCell'=true/\
  ((h=some []/\bs=[]/\∃ a cap,v=.slice a (show List (E4 r t).T from xs).length cap/\(show List (E4 r t).T from xs).length<=281474976710656) \/
   (h≠some []/\v=.slice none 0 0/\(show List (E4 r t).T from xs)=[]/\bs=[])\/
   (h≠some []/\∃ b o cap cells bss,v=.slice (some ⟨b,o,none⟩) (show List (E4 r t).T from xs).length cap/\GL (show List (E4 r t).T from xs).length cap/\RowAt w b cells id /\
    o+cap*(E4 r t).sz<=cells.size/\ow b/\(∀c,¬I.cell b c)/\¬I.obj b/\List.length bss=(show List (E4 r t).T from xs).length/\bs=b::List.flatten bss/\
    ∀i x,(show List (E4 r t).T from xs)[i]?=some x->DV ow w I t r x (QQ h i) ((cells.toList.drop (o+i*(E4 r t).sz)).take (E4 r t).sz) (bss.getD i [])))
def HJ(b:Nat):Value:=.map (some b)
def gY(w:World)(G:Gh)(gk:Nat)(h:Option (List Nat))(v:Value):Prop:=match h with
 |some [i]=>∃hv b o len cap,G.val (gk-2) 0=some hv/\v=.slice (some ⟨b,o,none⟩) len cap/\i<len/\w.cell? ⟨b,o+i,none⟩=some hv
 |_=>True
def DpOK(fr:Fr)(w:World)(G:Gh)(k:Nat):(ids:List Nat)->(t:Ty)->(E4 ids t).T->Nat->Option (List Nat)->Bool->Prop
 |[],_,_,_,_,_=>False
 |id::r,t,x,gk,h,true=>h≠some []/\G.ety k=some (E4 r t)/\∃v us bs,G.val k 0=some v/\G.val gk 0=some (.tuple us)/\us.toList=List.map HJ bs/\bs.Nodup/\DV fr.owned w G.im t (id::r) x h [v] bs/\gY w G gk h v
 |id::r,t,x,_,_,false=>∃v,G.val k 0=some v/\Rel w G.im (E4 (id::r) t) x [v]
def ItAt(w:World)(I:Im)(a b:Ty)(es:List (a.T×b.T))(o:Go.Obj):Prop:=
 ∃m,VRel w I (.map a b) es (.map m)/\((m=none/\o=.mapIter none 0 #[] 0)\/∃mb ents clock,m=some mb/\o=.mapIter (some mb) clock #[] clock/\w.heap[mb]?=some (.map ents clock))
theorem ItAt.lt{w:World}{I:Im}{a b:Ty}{es:List (a.T×b.T)}{o:Go.Obj}(h:ItAt w I a b es o):∀cells el,o≠.cells cells el (0,0):=by
 intro c el e;obtain⟨m,_,⟨_,h⟩|⟨_,_,_,_,h,_⟩⟩:=h<;>rw[h]at e<;>cases e
def ObjOK(P:Program)(fr:Fr)(w:World)(G:Gh)(k:Nat):Obj->Prop
 | .box t c wr=>∃b cs el,G.box k=some (b,t)/\w.heap[b]?=some (.cells cs el (0,0))/\cs.size=t.sz/\Fit c t/\CR P w G c cs.toList/\((wr=true->∀o,¬G.im.cell b o)/\(wr=false->∀o,o<t.sz->G.im.cell b o))/\¬G.im.obj b/\fr.owned b/\(t=GG->Lay P (.agg GG) el)
 | .sl el t xs g wr=>G.ety k=some t/\∃v,G.val k g=some v/\SlOK fr w G.im el t xs wr v
 | .mp a b es wr=>∃v,G.val k 0=some v/\tN fr w G.im a b es wr v
 | .dp ids t x gk h wr=>DpOK fr w G k ids t x gk h wr
 | .kv t x=>∃b c,G.box k=some (b,t)/\Row w G.im b 0 t.sz c/\Rel w G.im t x c
 | .it a b es=>∃r o,G.val k 0=some (.pointer (some ⟨r,0,none⟩))/\w.heap[r]?=some o/\ItAt w G.im a b es o/\¬G.im.obj r/\(∀j,¬G.im.cell r j)/\fr.owned r
 | .kn f c=>∃b vs,G.box k=some (b,.bool)/\G.im.cell b 0/\w.cell? ⟨b,0,none⟩=some (.func (.func f) #[] vs)/\CR P w G c vs.toList
def Bk(G:Gh)(k:Nat)(o:Obj)(b:Nat):Prop:=match o with
 | .box _ _ _=>(G.box k).map (·.1)=some b
 | .sl _ _ _ g _=>(match G.val k g with
  |some (.slice (some ad) _ _)=>some ad.block
  |_=>none)=some b
 | .mp _ _ _ _=>(match G.val k 0 with
  |some (.map (some b))=>some b
  |_=>none)=some b
 | .dp _ _ _ gk _ wr=>wr=true/\∃us,G.val gk 0=some (.tuple us)/\HJ b∈us.toList
 | .kn _ _=>False
 | .kv _ _=>False
 | .it _ _ _=>(match G.val k 0 with
  |some (.pointer (some ad))=>some ad.block
  |_=>none)=some b
theorem DpOK.shape{fr:Fr}{w:World}{G:Gh}{k id:Nat}{r:List Nat}{t:Ty}{xs:List (E4 r t).T}{gk:Nat}{h:Option (List Nat)}{wr:Bool}(hd:DpOK fr w G k (id::r) t xs gk h wr):
 ∃a cap,G.val k 0=some (.slice a xs.length cap)/\xs.length<=281474976710656:=by
 cases wr with
 |true=>
  obtain⟨h0,_,v,us,bs,h1,_,_,_,⟨v',h2,_,h3⟩,_⟩:=hd;have hv:v=v':=(A5.1 h2);subst hv;rcases h3 with⟨h3,_⟩|⟨_,rfl,h4,_⟩|⟨_,b,o,cap,cells,bss,rfl,h4,_⟩
  .exact absurd h3 h0
  .have h4:xs=[]:=h4;exact⟨none,0,by rw[h4];exact h1,by rw[h4];exact BQ _⟩
  .exact⟨_,cap,h1,h4.2⟩
 |false=>
  obtain⟨v,h1,a,cap,h2,h3,_⟩:=hd;have hv:v=_:=(A5.1 h2);subst hv;exact⟨a,cap,h1,h3.2⟩
theorem DpOK.rel{fr:Fr}{w:World}{G:Gh}{k:Nat}{ids:List Nat}{t:Ty}{x:(E4 ids t).T}{gk:Nat}{h:Option (List Nat)}(hd:DpOK fr w G k ids t x gk h false):
 ∃v,G.val k 0=some v/\Rel w G.im (E4 ids t) x [v]:=by
 cases ids with
 |nil=>exact absurd hd id
 |cons id r=>exact hd
def holds(a:Act)(tk:List (Nat×Bool)):Prop:=∀t∈tk,a.tmps.getD t.1 undef=.bool t.2
def SlotOK(P:Program)(w:World)(G:Gh)(a:Act):SV->Value->Prop
 | .grd tk g s,v=>(holds a tk->g=true/\SR P w G s v)/\(¬holds a tk->v=undef)
 |s,v=>SR P w G s v
structure Sim(P:Program)(fr:Fr)(free:Nat->Prop)(sl:Nat->SV)(σ:SSo)(a:Act)(w:World)(G:Gh):Prop where
 slots:∀t,SlotOK P w G a (sl t) (a.tmps.getD t undef)
 defs:a.defers=[]
 objs:∀k o,σ k=some o->ObjOK P fr w G k o
 sep:∀j k o o' b,σ j=some o->σ k=some o'->Bk G j o b->Bk G k o' b->j=k
 after:After fr.gv fr.w0 fr.i0 w G.im
 fresh:∀k,free k->σ k=none/\G.ety k=none/\G.box k=none/\∀g,G.val k g=none
section
variable{P:Program}{w:World}{G:Gh}{I:Im}
theorem Rel.cast{t u:Ty}{x:t.T}{y:u.T}{cs:List Value}(h:Ty.cast? t u x=some y)(hr:Rel w I t x cs):Rel w I u y cs:=by
 obtain⟨e,he⟩:=Ty.cast?_some h;subst e;subst he;exact hr
theorem VRel.cast{t u:Ty}{x:t.T}{y:u.T}{v:Value}(h:Ty.cast? t u x=some y)(hr:VRel w I t x v):VRel w I u y v:=by
 obtain⟨e,he⟩:=Ty.cast?_some h;subst e;subst he;exact hr
theorem Rel.iface_dflt:∀{t:Ty},t.isIface=true->Rel w I t t.dflt [.nilIface]:=by
 intro t;induction t with
 |inil=>intro _;rfl
 |ialt i a r iha ihr=>intro h;exact⟨rfl,ihr h⟩
 |_=>intro h;exact absurd h (by simp[Ty.isIface])
theorem A84{t:Ty}{v:Value}(h:t.isIface=true):I9 t v [v]:=by
 cases t<;>first|rfl|(simp[Ty.isIface]at h)
theorem JL{t:Ty}{s:SV}{x:t.T}{v:Value}(hs:s.as t=some x)(hr:SR P w G s v):VRel w G.im t x v:=by
 obtain⟨c,h1,h2⟩:=hr;cases s with
 |val u y=>exact VRel.cast hs ⟨c,h1,h2⟩
 |nilS=>
  cases t with
  |slice e=>
   have hx:x=([]:List e.T):=(A3 hs).symm;subst hx;refine⟨c,h1,?_⟩;rw[show c=_ from h2];exact⟨none,0,rfl,⟨AB _,BQ _⟩,λ_=>⟨rfl,rfl⟩,λad h=>oe⟩
  |_=>simp[SV.as]at hs
 |nilP=>
  cases t with
  |ptr e=>
   have hx:x=(none:Option e.T):=(A3 hs).symm;subst hx;exact⟨c,h1,h2⟩
  |_=>simp[SV.as]at hs
 |nilM=>
  cases t with
  |map k v=>
   have hx:x=([]:List (k.T×v.T)):=(A3 hs).symm;subst hx;refine⟨c,h1,none,h2,λ_=>rfl,λb h=>oe⟩
  |_=>simp[SV.as]at hs
 |nilI=>
  simp only[SV.as]at hs;split at hs
  .rename_i hi;simp only[AM]at hs;subst hs;have h1':c=[v]:=h1;have h2':c=[.nilIface]:=h2;rw[h1']at h2';injection h2' with h3 _;subst h3;exact⟨_,A84 hi,Rel.iface_dflt hi⟩
  .cases hs
 |ref u y=>
  cases t with
  |ptr e=>
   simp only[SV.as]at hs;cases hc:Ty.cast? u e y with
   |none=>rw[hc]at hs;cases hs
   |some z=>
    rw[hc]at hs;have hx:x=(some z:Option e.T):=(A3 hs).symm;subst hx;obtain⟨ad,d,h3,h4,h5,h6⟩:=h2;obtain⟨ee,he⟩:=Ty.cast?_some hc;subst ee;subst he;exact⟨c,h1,ad,h3,h4,d,h5,h6⟩
  |_=>simp[SV.as]at hs
 |nns e y=>exact VRel.cast hs ⟨c,h1,h2.1⟩
 |_=>simp[SV.as]at hs
theorem gZ{fr:Fr}{el:Nat}{t:Ty}{xs:List t.T}{v:Value}(h:SlOK fr w I el t xs false v):Rel w I (.slice t) xs [v]:=by
 rcases h with⟨rfl,rfl⟩|⟨b,cap,cs,rfl,h1,h2,h3,h4,_,_,h5,_⟩
 .exact⟨none,0,rfl,⟨AB _,BQ _⟩,λ_=>⟨rfl,rfl⟩,λad h=>oe⟩
 .refine⟨some ⟨b,0,none⟩,cap,rfl,h1,(λh=>oe),λad had=>?_⟩;cases had;refine⟨λ_=>rfl,λi x hx=>⟨_,⟨?_,λj hj=>?_⟩,h4 i x hx⟩⟩
  .exact(h4 i x hx).length
  .have hi:i<xs.length:=(A8.1 hx).1
   have hb:i*t.sz+j<xs.length*t.sz:=by
    have:(i+1)*t.sz<=xs.length*t.sz:=B1 _ hi;rw[C8]at this;omega
   refine⟨(h5 rfl _).1 (by simpa using hb),?_⟩;rw[AK,if_pos hj,AR,←h2.cell];simp only[B8]
theorem A85{fr:Fr}{a b:Ty}{es:List (a.T×b.T)}{v:Value}(h:tN fr w I a b es false v):Rel w I (.map a b) es [v]:=by
 obtain⟨b',ents,clock,rfl,h1,h2,h3,h4,_⟩:=h;refine⟨some b',rfl,(λh=>oe),λb2 hb2=>?_⟩;cases hb2;exact⟨h4.2 rfl,ents,clock,h1,h2,λi x e hx he=>h3 i x e hx he⟩
theorem tO{fr:Fr}{σ:SSo}(ho:∀k o,σ k=some o->ObjOK P fr w G k o){k g:Nat}{t:Ty}{x:t.T}{v:Value}
 (hs:NA σ k g t=some x)(hv:G.val k g=some v):Rel w G.im t x [v]:=by
 unfold NA at hs;split at hs
 .rename_i id e xs g' wr hk;split at hs
  .rename_i hg;simp only[A4,BI]at hg;have hgg:=A2 hg.1;subst hgg;have hw:wr=false:=hg.2;subst hw;obtain⟨_,v',h1,h2⟩:=ho k _ hk;rw[hv]at h1;cases h1;exact Rel.cast hs (gZ h2)
  .cases hs
 .rename_i a b es wr hk;split at hs
  .rename_i hg;simp only[A4,BI]at hg;have hgg:=A2 hg.1;subst hgg;have hw:wr=false:=hg.2;subst hw;obtain⟨v',h1,h2⟩:=ho k _ hk;rw[hv]at h1;cases h1;exact Rel.cast hs (A85 h2)
  .cases hs
 .rename_i id r e x' gk hh wr hk;split at hs
  .rename_i hg;simp only[A4,BI]at hg;have hgg:=A2 hg.1;subst hgg;have hw:wr=false:=hg.2;subst hw;obtain⟨v',h1,h2⟩:=ho k _ hk;rw[hv]at h1;cases h1;exact Rel.cast hs h2
  .cases hs
 .cases hs
theorem tP{a b:Ty}{es:List (a.T×b.T)}{u:Ty}{y:u.T}{v:Value}(h:Ty.cast? (.map a b) u es=some y):I9 u v [v]:=by
 obtain⟨e,_⟩:=Ty.cast?_some h;subst e;rfl
theorem XM{t:Ty}{xs:List t.T}{u:Ty}{y:u.T}{v:Value}(h:Ty.cast? (.slice t) u xs=some y):I9 u v [v]:=by
 obtain⟨e,_⟩:=Ty.cast?_some h;subst e;rfl
theorem A86{σ:SSo}{k g:Nat}{t:Ty}{x:t.T}{v:Value}(hs:NA σ k g t=some x):I9 t v [v]:=by
 unfold NA at hs;split at hs
 .split at hs
  .exact XM hs
  .cases hs
 .split at hs
  .exact tP hs
  .cases hs
 .rename_i i r e x' gk hh w hk;split at hs
  .exact XM (t:=E4 r e) hs
  .cases hs
 .cases hs
theorem tQ{σ:SSo}{t:Ty}{s:SV}(h:∀k g,s≠.obj k g):s.asV σ t=s.as t:=by
 cases s<;>first|rfl|exact absurd rfl (h _ _)
theorem II{fr:Fr}{σ:SSo}(ho:∀k o,σ k=some o->ObjOK P fr w G k o){t:Ty}{s:SV}{x:t.T}{v:Value}
 (hs:s.asV σ t=some x)(hr:SR P w G s v):VRel w G.im t x v:=by
 cases s with
 |obj k g=>
  obtain⟨c,h1,v',h2,_,h3⟩:=hr;have h1':c=[v]:=h1;rw[h1']at h3;injection h3 with h4 _;subst h4;have hs':NA σ k g t=some x:=hs;exact⟨_,A86 hs',tO ho hs' h2⟩
 |_=>rw[tQ (by intro k g h;cases h)]at hs;exact JL hs hr
theorem tR{t:Ty}{s:SV}{x:t.T}{cs:List Value}(hs:s.as t=some x)(hr:CR P w G s cs):Rel w G.im t x cs:=by
 cases s with
 |val u y=>exact Rel.cast hs hr
 |nilS=>
  have hc:cs=[.slice none 0 0]:=hr;obtain⟨c,h1,h2⟩:=JL (P:=P) (w:=w) (G:=G) hs (v:=.slice none 0 0) ⟨_,rfl,rfl⟩;cases t with
  |slice e=>subst hc;rw[show c=[_]from h1]at h2;exact h2
  |_=>simp[SV.as]at hs
 |nilP=>
  have hc:cs=[.pointer none]:=hr;obtain⟨c,h1,h2⟩:=JL (P:=P) (w:=w) (G:=G) hs (v:=.pointer none) ⟨_,rfl,rfl⟩;cases t with
  |ptr e=>subst hc;rw[show c=[_]from h1]at h2;exact h2
  |_=>simp[SV.as]at hs
 |nilM=>
  have hc:cs=[.map none]:=hr;obtain⟨c,h1,h2⟩:=JL (P:=P) (w:=w) (G:=G) hs (v:=.map none) ⟨_,rfl,rfl⟩;cases t with
  |map k v=>subst hc;rw[show c=[_]from h1]at h2;exact h2
  |_=>simp[SV.as]at hs
 |nilI=>
  have hc:cs=[.nilIface]:=hr;simp only[SV.as]at hs;split at hs
  .rename_i hi;simp only[AM]at hs;subst hs hc;exact Rel.iface_dflt hi
  .cases hs
 |ref u y=>
  obtain⟨ad,d,h3,h4,h5,h6⟩:=hr;obtain⟨c,h1,h2⟩:=JL (P:=P) (w:=w) (G:=G) hs (v:=.pointer (some ad)) ⟨_,rfl,ad,d,rfl,h4,h5,h6⟩;cases t with
  |ptr e=>subst h3;rw[show c=[_]from h1]at h2;exact h2
  |_=>simp[SV.as]at hs
 |nns e y=>exact Rel.cast hs hr.1
 |_=>simp[SV.as]at hs
theorem A87{fr:Fr}{σ:SSo}(ho:∀k o,σ k=some o->ObjOK P fr w G k o){t:Ty}{s:SV}{x:t.T}{cs:List Value}
 (hs:s.asV σ t=some x)(hr:CR P w G s cs):Rel w G.im t x cs:=by
 cases s with
 |obj k g=>
  obtain⟨v,h1,_,h2⟩:=hr;rw[h2];exact tO ho hs h1
 |_=>rw[tQ (by intro k g h;cases h)]at hs;exact tR hs hr
theorem QR{u p:Ty}{y:u.T}{x:p.T}{cs:List Value}(h:JZ u p y=some x)(hr:Rel w I u y cs):Rel w I p x cs:=by
 cases u with
 |agg q=>exact Rel.cast (t:=q) h hr
 |_=>exact Rel.cast h hr
theorem A88{σ:SSo}{t:Ty}{s:SV}(h:∀u x,s≠.val u x):s.asL σ t=s.asV σ t:=by
 cases s<;>first|rfl|exact absurd rfl (h _ _)
theorem A89{fr:Fr}{σ:SSo}(ho:∀k o,σ k=some o->ObjOK P fr w G k o){t:Ty}{s:SV}{x:t.T}{cs:List Value}
 (hs:s.asL σ t=some x)(hr:CR P w G s cs):Rel w G.im t x cs:=by
 cases s with
 |val u y=>exact QR (p:=t) hs hr
 |_=>rw[A88 (by intro k g h;cases h)]at hs;exact A87 ho hs hr
theorem TJ{u t:Ty}{y:u.T}{x:t.T}{cs:List Value}(h:KN u t y=some x)(hr:Rel w I u y cs):Rel w I t x cs:=by
 unfold KN at h;split at h
 .rename_i p;split at h
  .rename_i y' h';cases h;exact Rel.cast h' hr
  .exact show Rel w I p x cs from Rel.cast h hr
 .exact QR h hr
theorem QS{fr:Fr}{σ:SSo}(ho:∀k o,σ k=some o->ObjOK P fr w G k o):∀{t:Ty} {s:SV} {x:t.T} {cs:List Value},
 s.asC σ t=some x->CR P w G s cs->Rel w G.im t x cs:=by
 intro t;induction t with
 |prod a b iha ihb=>
  intro s x cs hs hr;simp only[SV.asC]at hs;split at hs
  .split at hs
   .rename_i p q hp hq;have hx:=A3 hs;subst hx;obtain⟨c,d,h1,h2,h3⟩:=hr;exact⟨c,d,h1,iha hp h2,ihb hq h3⟩
   .cases hs
  .exact QR (p:=.prod a b) hs hr
  .exact tR hs hr
 |agg p ih=>
  intro s x cs hs hr;simp only[SV.asC]at hs;show Rel w G.im p x cs;cases s with
  |val u y=>exact QR (p:=p) hs hr
  |_=>exact ih hs hr
 |_=>
  intro s x cs hs hr;exact A89 ho hs hr
theorem Fit.len:∀{c:SV} {t:Ty} {cs:List Value},Fit c t->CR P w G c cs->cs.length=t.sz:=by
 intro c;induction c with
 |val u y=>
  intro t cs hf hr;have h1:u.bare=t.bare:=hf;rw[Rel.length (show Rel w G.im u y cs from hr),<-Ty.sz_bare,h1,Ty.sz_bare]
 |pr a b iha ihb=>
  intro t cs hf hr;obtain⟨x,y,h1,h2,h3⟩:=hf;obtain⟨c,d,h4,h5,h6⟩:=hr;rw[h4,A6,iha h2 h5,ihb h3 h6,<-Ty.sz_bare t,h1];rfl
 |obj k g=>intro t cs hf hr;obtain⟨v,_,_,h⟩:=hr;rw[h];exact(show t.sz=1 from hf).symm
 |ptr k p u=>intro t cs hf hr;obtain⟨b,t',o,_,_,_,h⟩:=hr;rw[h];exact(show t.sz=1 from hf).symm
 |nilS=>intro t cs hf hr;rw[show cs=_ from hr];exact(show t.sz=1 from hf).symm
 |slf k=>intro t cs hf hr;obtain⟨b,t',_,h⟩:=hr;rcases h with h|h<;>(rw[h];exact(show t.sz=1 from hf).symm)
 |fn f c=>intro t cs hf hr;obtain⟨vs,h,_⟩:=hr;rw[h];exact(show t.sz=1 from hf).symm
 |hof d c F=>intro t cs hf hr;obtain⟨f,vs,h,_⟩:=hr;rw[h];exact(show t.sz=1 from hf).symm
 |nns e x=>
  intro t cs hf hr;obtain⟨_,ad,n,m,h⟩:=hr;rw[h];exact(show t.sz=1 from hf).symm
 |_=>intro t cs hf;exact absurd hf (by simp[Fit])
theorem Ty.off_bare(t:Ty)(i:Bool)(r:List Bool):t.off (i::r)=t.bare.off (i::r):=by cases t<;>rfl
theorem Ty.sub_bare(t:Ty)(i:Bool)(r:List Bool):t.sub (i::r)=t.bare.sub (i::r):=by cases t<;>rfl
theorem g_{c x y:SV}{t:Ty}{cs:List Value}(hf:Fit c t)(hr:CR P w G c cs)(hh:c.halves=some (x,y)):
 ∃tx ty c1 c2,t.bare=.prod tx ty/\Fit x tx/\Fit y ty/\cs=c1++c2/\CR P w G x c1/\CR P w G y c2/\c1.length=tx.sz/\c2.length=ty.sz:=by
 cases c with
 |pr a b=>
  simp only[SV.halves,AM,D9]at hh;obtain⟨rfl,rfl⟩:=hh;obtain⟨u,v,h1,h2,h3⟩:=hf;obtain⟨c,d,h4,h5,h6⟩:=hr;exact⟨u,v,c,d,h1,h2,h3,h4,h5,h6,h2.len h5,h3.len h6⟩
 |val u z=>
  cases u with
  |prod a b=>
   simp only[SV.halves,AM,D9]at hh;obtain⟨rfl,rfl⟩:=hh;obtain⟨c,d,h4,h5,h6⟩:=hr;exact⟨a,b,c,d,(show(Ty.prod a b).bare=t.bare from hf).symm,rfl,rfl,h4,h5,h6,h5.length,h6.length⟩
  |agg q=>
   cases q with
   |prod a b=>
    simp only[SV.halves,AM,D9]at hh;obtain⟨rfl,rfl⟩:=hh;obtain⟨c,d,h4,h5,h6⟩:=(show Rel w G.im (.prod a b) z cs from hr);exact⟨a,b,c,d,(show(Ty.agg (.prod a b)).bare=t.bare from hf).symm,rfl,rfl,h4,h5,h6,h5.length,h6.length⟩
   |_=>simp[SV.halves]at hh
  |_=>simp[SV.halves]at hh
 |_=>simp[SV.halves]at hh
theorem XN{c1 c2:List Value}{o n:Nat}(h:o+n<=c1.length):((c1++c2).drop o).take n=(c1.drop o).take n:=by
 rw[List.drop_append_of_le_length o5,D3 og]
theorem XO{c1 c2:List Value}{o n:Nat}:((c1++c2).drop (c1.length+o)).take n=(c2.drop o).take n:=by
 rw[List.drop_append,DE o5];simp
theorem TK:∀{p:List Bool} {c s:SV} {t:Ty} {cs:List Value},Fit c t->CR P w G c cs->c.getAt p=some s->
 ∃o u,t.off p=some o/\t.sub p=some u/\Fit s u/\o+u.sz<=t.sz/\CR P w G s ((cs.drop o).take u.sz):=by
 intro p;induction p with
 |nil=>
  intro c s t cs hf hr hg;simp only[SV.getAt,AM]at hg;subst hg;refine⟨0,t,by cases t<;>rfl,by cases t<;>rfl,hf,o5,?_⟩;rw[DG,CZ (by rw[hf.len hr];omega)];exact hr
 |cons i r ih=>
  intro c s t cs hf hr hg;simp only[SV.getAt]at hg;cases hh:c.halves with
  |none=>rw[hh]at hg;cases hg
  |some xy=>
   obtain⟨x,y⟩:=xy;rw[hh]at hg;obtain⟨tx,ty,c1,c2,h1,h2,h3,h4,h5,h6,h7,h8⟩:=g_ hf hr hh;have hsz:t.sz=tx.sz+ty.sz:=by rw[<-Ty.sz_bare,h1];rfl
   cases i with
   |false=>
    obtain⟨o,u,k1,k2,k3,k4,k5⟩:=ih h2 h5 hg;refine⟨o,u,by rw[Ty.off_bare,h1];exact k1,by rw[Ty.sub_bare,h1];exact k2,k3,o5,?_⟩;rw[h4,XN o5];exact k5
   |true=>
    obtain⟨o,u,k1,k2,k3,k4,k5⟩:=ih h3 h6 hg;refine⟨tx.sz+o,u,by rw[Ty.off_bare,h1];simp[Ty.off,k1],by rw[Ty.sub_bare,h1];exact k2,k3,o5,?_⟩;rw[h4,<-h7,XO];exact k5
def F4(cs:List Value)(o:Nat)(ds:List Value):List Value:=cs.take o++(ds++cs.drop (o+ds.length))
theorem tS{c1 c2 ds:List Value}{o:Nat}(h:o+ds.length<=c1.length):F4 (c1++c2) o ds=F4 c1 o ds++c2:=by
 unfold F4;rw[D3 o5,List.drop_append_of_le_length h];simp
theorem tT{c1 c2 ds:List Value}{o:Nat}:F4 (c1++c2) (c1.length+o) ds=c1++F4 c2 o ds:=by
 unfold F4;rw[List.take_append,CZ o5,List.drop_append,DE o5];simp[C7]
theorem JM{cs ds:List Value}{o:Nat}(h:o+ds.length<=cs.length):(F4 cs o ds).length=cs.length:=by
 unfold F4;simp;omega
theorem hJ:∀{p:List Bool} {c c' s:SV} {t u:Ty} {cs ds:List Value} {o:Nat},Fit c t->CR P w G c cs->c.setAt p s=some c'->
 t.off p=some o->t.sub p=some u->Fit s u->CR P w G s ds->
 Fit c' t/\o+u.sz<=t.sz/\CR P w G c' (F4 cs o ds):=by
 intro p;induction p with
 |nil=>
  intro c c' s t u cs ds o hf hr hs ho hu hfs hrs;simp only[SV.setAt,AM]at hs;subst hs;have hu':t=u:=by cases t<;>exact A3 hu
  subst hu';have ho':0=o:=by cases t<;>exact A3 ho
  subst ho';refine⟨hfs,o5,?_⟩
  have:F4 cs 0 ds=ds:=by
   unfold F4;rw[DE (by rw[hf.len hr,hfs.len hrs];omega)];simp
  rw[this];exact hrs
 |cons i r ih=>
  intro c c' s t u cs ds o hf hr hs ho hu hfs hrs;simp only[SV.setAt]at hs;cases hh:c.halves with
  |none=>rw[hh]at hs;cases hs
  |some xy=>
   obtain⟨x,y⟩:=xy;rw[hh]at hs;obtain⟨tx,ty,c1,c2,h1,h2,h3,h4,h5,h6,h7,h8⟩:=g_ hf hr hh;have hsz:t.sz=tx.sz+ty.sz:=by rw[<-Ty.sz_bare,h1];rfl
   rw[Ty.off_bare,h1]at ho;rw[Ty.sub_bare,h1]at hu;have hds:=hfs.len hrs;cases i with
   |false=>
    simp only[AC]at hs;cases hx:x.setAt r s with
    |none=>rw[hx]at hs;cases hs
    |some x'=>
     rw[hx]at hs;simp only[BD,AM]at hs;subst hs;obtain⟨k1,k2,k3⟩:=ih h2 h5 hx ho hu hfs hrs;refine⟨⟨tx,ty,h1,k1,h3⟩,o5,_,_,?_,k3,h6⟩;rw[h4,tS o5]
   |true=>
    simp only[AA]at hs;cases hy:y.setAt r s with
    |none=>rw[hy]at hs;cases hs
    |some y'=>
     rw[hy]at hs;simp only[BD,AM]at hs;subst hs;simp only[Ty.off,AA]at ho;cases ho':ty.off r with
     |none=>rw[ho']at ho;cases ho
     |some o'=>
      rw[ho']at ho;simp only[BD,AM]at ho;subst ho;obtain⟨k1,k2,k3⟩:=ih h3 h6 hy ho' hu hfs hrs;refine⟨⟨tx,ty,h1,h2,k1⟩,o5,_,_,?_,h5,k3⟩;rw[h4,<-h7,tT]
theorem TL:∀{t:Ty} {p:List Bool} {x:t.T} {u:Ty} {y:u.T} {cs:List Value},Rel w I t x cs->Ty.at t p x=some ⟨u,y⟩->
 ∃o,t.off p=some o/\t.sub p=some u/\o+u.sz<=t.sz/\Rel w I u y ((cs.drop o).take u.sz):=by
 intro t
 have base:∀{t:Ty} {x:t.T} {u:Ty} {y:u.T} {cs:List Value},Rel w I t x cs->(some ⟨t,x⟩:Option ((u:Ty)×u.T))=some ⟨u,y⟩->
  ∃o,t.off []=some o/\t.sub []=some u/\o+u.sz<=t.sz/\Rel w I u y ((cs.drop o).take u.sz):=by
  intro t x u y cs hr h;cases h;refine⟨0,by cases t<;>rfl,by cases t<;>rfl,o5,?_⟩;rw[DG,CZ (by rw[hr.length];omega)];exact hr
 have step:∀ {a b:Ty} (iha:∀ {p:List Bool} {x:a.T} {u:Ty} {y:u.T} {cs:List Value},Rel w I a x cs->Ty.at a p x=some ⟨u,y⟩ ->
  ∃o,a.off p=some o/\a.sub p=some u/\o+u.sz<=a.sz/\Rel w I u y ((cs.drop o).take u.sz))
  (ihb:∀ {p:List Bool} {x:b.T} {u:Ty} {y:u.T} {cs:List Value},Rel w I b x cs->Ty.at b p x=some ⟨u,y⟩ ->
   ∃o,b.off p=some o/\b.sub p=some u/\o+u.sz<=b.sz/\Rel w I u y ((cs.drop o).take u.sz))
  {i:Bool} {r:List Bool} {x:a.T×b.T} {u:Ty} {y:u.T} {cs:List Value},Rel w I (.prod a b) x cs->
  (bif i then Ty.at b r x.2 else Ty.at a r x.1)=some ⟨u,y⟩->
  ∃o,(Ty.prod a b).off (i::r)=some o/\(Ty.prod a b).sub (i::r)=some u/\o+u.sz<=(Ty.prod a b).sz/\Rel w I u y ((cs.drop o).take u.sz):=by
  intro a b iha ihb i r x u y cs hr h;obtain⟨c1,c2,h1,h2,h3⟩:=hr;have hsz:(Ty.prod a b).sz=a.sz+b.sz:=rfl;cases i with
  |false=>
   obtain⟨o,k1,k2,k3,k4⟩:=iha h2 h;refine⟨o,k1,k2,o5,?_⟩;rw[h1,XN (by rw[h2.length];omega)];exact k4
  |true=>
   obtain⟨o,k1,k2,k3,k4⟩:=ihb h3 h;refine⟨a.sz+o,by simp[Ty.off,k1],k2,o5,?_⟩;rw[h1,<-h2.length,XO];exact k4
 induction t with
 |prod a b iha ihb=>
  intro p x u y cs hr h;cases p with
  |nil=>exact base hr h
  |cons i r=>exact step iha ihb hr h
 |agg q ih=>
  intro p x u y cs hr h;cases p with
  |nil=>exact base hr h
  |cons i r=>
   cases q with
   |prod a b=>
    have h':Ty.at (.prod a b) (i::r) x=some ⟨u,y⟩:=h;obtain⟨o,k1,k2,k3,k4⟩:=ih (p:=i::r) (show Rel w I (.prod a b) x cs from hr) h';exact⟨o,k1,k2,k3,k4⟩
   |_=>simp[Ty.at]at h
 |_=>
  intro p x u y cs hr h;cases p with
  |nil=>exact base hr h
  |cons i r=>simp[Ty.at]at h
theorem XP:∀{t:Ty} {p:List Bool} {x z:t.T} {u:Ty} {y:u.T} {cs ds:List Value} {o:Nat},Rel w I t x cs->Ty.put t p x u y=some z->
 t.off p=some o->Rel w I u y ds->t.sub p=some u/\o+u.sz<=t.sz/\Rel w I t z (F4 cs o ds):=by
 intro t
 have base:∀{t:Ty} {x z:t.T} {u:Ty} {y:u.T} {cs ds:List Value} {o:Nat},Rel w I t x cs->Ty.cast? u t y=some z->t.off []=some o->Rel w I u y ds->
  t.sub []=some u/\o+u.sz<=t.sz/\Rel w I t z (F4 cs o ds):=by
  intro t x z u y cs ds o hr h ho hd;have ho':0=o:=by cases t<;>exact A3 ho
  subst ho';have hd':=Rel.cast h hd;obtain⟨e,he⟩:=Ty.cast?_some h;subst e;refine⟨by cases u<;>rfl,o5,?_⟩
  have:F4 cs 0 ds=ds:=by
   unfold F4;rw[DE (by rw[hr.length,hd.length];omega)];simp
  rw[this];exact hd'
 have step:∀ {a b:Ty} (iha:∀ {p:List Bool} {x z:a.T} {u:Ty} {y:u.T} {cs ds:List Value} {o:Nat},Rel w I a x cs->Ty.put a p x u y=some z ->
  a.off p=some o->Rel w I u y ds->a.sub p=some u/\o+u.sz<=a.sz/\Rel w I a z (F4 cs o ds))
  (ihb:∀ {p:List Bool} {x z:b.T} {u:Ty} {y:u.T} {cs ds:List Value} {o:Nat},Rel w I b x cs->Ty.put b p x u y=some z ->
   b.off p=some o->Rel w I u y ds->b.sub p=some u/\o+u.sz<=b.sz/\Rel w I b z (F4 cs o ds))
  {i:Bool} {r:List Bool} {x z:a.T×b.T} {u:Ty} {y:u.T} {cs ds:List Value} {o:Nat},Rel w I (.prod a b) x cs->
  (bif i then(Ty.put b r x.2 u y).map (λz=>(x.1,z))else(Ty.put a r x.1 u y).map (λz=>(z,x.2)))=some z->
  (Ty.prod a b).off (i::r)=some o->Rel w I u y ds->
  (Ty.prod a b).sub (i::r)=some u/\o+u.sz<=(Ty.prod a b).sz/\Rel w I (.prod a b) z (F4 cs o ds):=by
  intro a b iha ihb i r x z u y cs ds o hr h ho hd;obtain⟨c1,c2,h1,h2,h3⟩:=hr;have hsz:(Ty.prod a b).sz=a.sz+b.sz:=rfl;have hdl:=hd.length;cases i with
  |false=>
   simp only[AC]at h;cases hq:Ty.put a r x.1 u y with
   |none=>rw[hq]at h;cases h
   |some q=>
    rw[hq]at h;simp only[BD,AM]at h;subst h;obtain⟨k1,k2,k3⟩:=iha h2 hq ho hd;refine⟨k1,o5,_,_,?_,k3,h3⟩;rw[h1,tS (by rw[h2.length];omega)]
  |true=>
   simp only[AA]at h;cases hq:Ty.put b r x.2 u y with
   |none=>rw[hq]at h;cases h
   |some q=>
    rw[hq]at h;simp only[BD,AM]at h;subst h;simp only[Ty.off,AA]at ho;cases ho':b.off r with
    |none=>rw[ho']at ho;cases ho
    |some o'=>
     rw[ho']at ho;simp only[BD,AM]at ho;subst ho;obtain⟨k1,k2,k3⟩:=ihb h3 hq ho' hd;refine⟨k1,o5,_,_,?_,h2,k3⟩;rw[h1,<-h2.length,tT]
 induction t with
 |prod a b iha ihb=>
  intro p x z u y cs ds o hr h ho hd;cases p with
  |nil=>exact base hr h ho hd
  |cons i r=>exact step iha ihb hr h ho hd
 |agg q ih=>
  intro p x z u y cs ds o hr h ho hd;cases p with
  |nil=>exact base hr h ho hd
  |cons i r=>
   cases q with
   |prod a b=>
    have h':Ty.put (.prod a b) (i::r) x u y=some z:=h;exact ih (p:=i::r) (show Rel w I (.prod a b) x cs from hr) h' ho hd
   |_=>simp[Ty.put]at h
 |_=>
  intro p x z u y cs ds o hr h ho hd;cases p with
  |nil=>exact base hr h ho hd
  |cons i r=>simp[Ty.put]at h
end
section
variable{P:Program}{w:World}{I:Im}
theorem TM(k:IntKind):G6 k 0:=by cases k<;>exact⟨od,od⟩
theorem tU:∀{t:Ty} {l r:List Value},zc t l=some r->∃c,l=c++r/\Rel w I t t.dflt c:=by
 intro t;induction t with
 |unit=>intro l r h;exact⟨[],by simpa[zc]using h,rfl⟩
 |bool=>
  intro l r h;simp only[zc]at h;split at h
  .cases h;exact⟨[_],rfl,rfl⟩
  .cases h
 |int k=>
  intro l r h;simp only[zc]at h;split at h
  .split at h
   .rename_i hc;cases h;simp only[A4,DT]at hc;have:=PQ hc.1;subst this;exact⟨[_],rfl,by rw[hc.2];rfl,TM k⟩
   .cases h
  .cases h
 |str=>
  intro l r h;simp only[zc]at h;split at h
  .rename_i s r';split at h
   .rename_i hc;cases h
    have h0:s.data= #[]:=by
     have:=DT.1 hc;rw[CD]at this;exact Array.toList_eq_nil_iff.1 this
    have hs:s=⟨#[]⟩:=by cases s;simp only at h0;rw[h0]
    exact⟨[_],rfl,by rw[hs];rfl,by simp[Ty.dflt]⟩
   .cases h
  .cases h
 |slice e ih=>
  intro l r h;simp only[zc]at h;split at h
  .cases h;exact⟨[_],rfl,none,0,rfl,⟨AB _,BQ _⟩,λ_=>⟨rfl,rfl⟩,λad h=>oe⟩
  .cases h
 |agg t ih=>intro l r h;exact ih h
 |prod a b iha ihb=>
  intro l r h;simp only[zc]at h;split at h
  .rename_i q hq;obtain⟨c,h1,h2⟩:=iha hq;obtain⟨d,h3,h4⟩:=ihb h;exact⟨c++d,by rw[h1,h3,B_],c,d,rfl,h2,h4⟩
  .cases h
 |arr n e ih=>
  have key:∀(n:Nat) (l r:List Value),Nat.rec (motive:=λ_=>List Value->Option (List Value)) some (λ_ ih l=>match zc e l with|some r=>ih r|none=>none) n l=some r->
   ∃c,l=c++r/\Rel w I (.arr n e) (List.replicate n e.dflt) c:=by
   intro n;induction n with
   |zero=>intro l r h;cases h;exact⟨[],rfl,rfl,oc,λi x hx=>by simp at hx⟩
   |succ n ihn=>
    intro l r h;simp only at h;split at h
    .rename_i q hq;obtain⟨c,h1,h2⟩:=ih hq;obtain⟨d,h3,h4⟩:=ihn _ _ h;refine⟨c++d,by rw[h1,h3,B_],oc,?_,λi x hx=>?_⟩
     .rw[A6,h2.length,h4.2.1,C8,Nat.add_comm]
     .cases i with
      |zero=>
       simp[List.replicate_succ]at hx;subst hx;rw[Nat.zero_mul,DG,D3 (by rw[h2.length];omega),CZ (by rw[h2.length];omega)];exact h2
      |succ i=>
       have hx':(List.replicate n e.dflt)[i]?=some x:=by simpa[List.replicate_succ]using hx
       have:=h4.2.2 i x hx';have hsz:(i+1)*e.sz=c.length+i*e.sz:=by rw[h2.length,C8,Nat.add_comm]
       rw[hsz,XO];exact this
    .cases h
  intro l r h;exact key n l r h
 |ptr e ih=>
  intro l r h;simp only[zc]at h;split at h
  .cases h;exact⟨[_],rfl,rfl⟩
  .cases h
 |map k v ihk ihv=>
  intro l r h;simp only[zc]at h;split at h
  .cases h;exact⟨[_],rfl,none,rfl,λ_=>rfl,λb h=>oe⟩
  .cases h
 |inil=>
  intro l r h;simp only[zc]at h;split at h
  .cases h;exact⟨[_],rfl,rfl⟩
  .cases h
 |self=>
  intro l r h;simp only[zc]at h;split at h
  .cases h;exact⟨[_],rfl,rfl⟩
  .cases h
 |opq=>
  intro l r h;simp only[zc]at h;split at h
  .rename_i v r';split at h
   .rename_i hv;cases h;exact⟨[v],rfl,v,rfl,hv⟩
   .cases h
  .cases h
 |fnc a b _ _=>
  intro l r h;simp only[zc]at h;split at h
  .cases h;exact⟨[_],rfl,rfl⟩
  .cases h
 |ialt i t q iht ihq=>
  intro l r h;simp only[zc]at h;split at h
  .rename_i hi;split at h
   .cases h;exact⟨[_],rfl,Rel.iface_dflt (t:=.ialt i t q) hi⟩
   .cases h
  .cases h
theorem Value.cells_of_not_agg{v:Value}(h:∀cs,v≠.agg cs):v.cells= #[v]:=by
 cases v<;>first|rfl|exact absurd rfl (h _)
theorem XQ{t:Ty}{v:Value}(h:zv t v=true):VRel w I t t.dflt v/\Rel w I t t.dflt v.cells.toList:=by
 have ag:∀{t:Ty} {l:List Value},NK t l=true->Rel w I t t.dflt l:=by
  intro t l h;unfold NK at h;split at h
  .rename_i hz;obtain⟨c,h1,h2⟩:=tU (w:=w) (I:=I) hz;rw[C3]at h1;rw[h1];exact h2
  .cases h
 cases t with
 |agg t=>
  simp only[zv]at h;split at h
  .rename_i cs;have:=ag h;exact⟨⟨_,by simp[I9],this⟩,this⟩
  .cases h
 |arr n e=>
  simp only[zv]at h;split at h
  .rename_i cs;have:=ag h;exact⟨⟨_,by simp[I9],this⟩,this⟩
  .cases h
 |_=>
  simp only[zv]at h;split at h
  .cases h
  .rename_i hv;have h1:=ag h;exact⟨⟨_,rfl,h1⟩,by rw[Value.cells_of_not_agg hv];exact h1⟩
theorem IU{t:Ty}{id:Nat}(h:OA P t id=true):
 ∃i v,P.info? id=some i/\i.size=t.sz/\i.bytes<=24*t.sz/\i.zero=some v/\zv t v=true:=by
 unfold OA at h;rw[A4]at h
 replace h:=h.1
 split at h
 .rename_i i hi;simp only[A4]at h;obtain⟨h1,h2,h3⟩:=h;split at h3
  .rename_i v hv;exact⟨i,v,hi,A2 h1,BX h2,hv,h3⟩
  .cases h3
 .cases h
theorem A8A{t:Ty}{id:Nat}(h:OA P t id=true)(ht:t.same (.agg GG)=true):id<P.types.size:=by
 unfold OA tM at h;rw[A4,ht]at h;have:=h.2;simp only[C0,CC,A4,BW]at this;exact this.1
theorem I4{t:Ty}{c:TypeDesc->Bool}{id:Nat}(h:(layB.one P t c).1 id=true):OA P t id=true/\∃d,P.underlying id=some d/\c d=true:=by
 simp only[layB.one,A4]at h;refine⟨h.1,?_⟩;have h2:=h.2;split at h2
 .rename_i d hd;exact⟨d,hd,h2⟩
 .cases h2
theorem Lay.inf{t:Ty}{id:Nat}(h:Lay P t id):OA P t id=true:=by
 unfold Lay at h;cases t<;>first|exact(I4 h).1|(simp[layB]at h)
theorem Lay.slice{e:Ty}{id:Nat}(h:Lay P (.slice e) id):∃el,P.underlying id=some (.slice el)/\Lay P e el/\0<e.sz:=by
 obtain⟨_,d,hd,hc⟩:=I4 h;split at hc
 .simp only[A4,BW]at hc;exact⟨_,hd,hc.1,hc.2⟩
 .cases hc
theorem Lay.agg{p:Ty}{id:Nat}(h:Lay P (.agg p) id):∃fs,P.underlying id=some (.struct fs)/\(layB P p).2 fs.toList 0=true/\0<p.sz:=by
 obtain⟨_,d,hd,hc⟩:=I4 h;split at hc
 .simp only[A4,BW]at hc;exact⟨_,hd,hc.1,hc.2⟩
 .cases hc
theorem Lay.arr{n:Nat}{e:Ty}{id:Nat}(h:Lay P (.arr n e) id):∃el,P.underlying id=some (.array n el)/\Lay P e el/\0<e.sz/\1<n:=by
 obtain⟨_,d,hd,hc⟩:=I4 h;split at hc
 .simp only[A4,BW]at hc;have:=A2 hc.1;subst this;exact⟨_,hd,hc.2.1,hc.2.2.1,hc.2.2.2⟩
 .cases hc
theorem Lay.map{k v:Ty}{id:Nat}(h:Lay P (.map k v) id):∃a b,P.underlying id=some (.map a b)/\Lay P k a/\Lay P v b:=by
 obtain⟨_,d,hd,hc⟩:=I4 h;split at hc
 .simp only[A4]at hc;exact⟨_,_,hd,hc.1,hc.2⟩
 .cases hc
theorem Lay.ptr{e:Ty}{id:Nat}(h:Lay P (.ptr e) id):∃el,P.underlying id=some (.pointer el)/\Lay P e el:=by
 obtain⟨_,d,hd,hc⟩:=I4 h;split at hc
 .exact⟨_,hd,hc⟩
 .cases hc
theorem Lay.int{k:IntKind}{id:Nat}(h:Lay P (.int k) id):P.underlying id=some (.int k):=by
 obtain⟨_,d,hd,hc⟩:=I4 h;split at hc
 .rw[hd,PQ hc]
 .cases hc
theorem Lay.self{id:Nat}(h:Lay P .self id):∃el,P.underlying id=some (.pointer el):=by
 obtain⟨_,d,hd,hc⟩:=I4 h;split at hc
 .exact⟨_,hd⟩
 .cases hc
theorem Lay.opq{id:Nat}(h:Lay P .opq id):∃d,P.underlying id=some d/\∀ms,d≠.interface ms:=by
 obtain⟨_,d,hd,hc⟩:=I4 h;refine⟨d,hd,λms e=>?_⟩;subst e;cases hc
theorem Lay.fnc{a b:Ty}{id:Nat}(h:Lay P (.fnc a b) id):∃d,P.underlying id=some d/\∀ms,d≠.interface ms:=by
 obtain⟨_,d,hd,hc⟩:=I4 h;refine⟨d,hd,λms e=>?_⟩;subst e;cases hc
theorem Lay.str{id:Nat}(h:Lay P .str id):P.underlying id=some .string:=by
 obtain⟨_,d,hd,hc⟩:=I4 h;split at hc
 .exact hd
 .cases hc
theorem Lay.bool{id:Nat}(h:Lay P .bool id):P.underlying id=some .bool:=by
 obtain⟨_,d,hd,hc⟩:=I4 h;split at hc
 .exact hd
 .cases hc
theorem Lay.iface{t:Ty}{id:Nat}(h:Lay P t id)(hi:t.isIface=true):∃ms,P.underlying id=some (.interface ms):=by
 cases t with
 |inil=>
  obtain⟨_,d,hd,hc⟩:=I4 h;split at hc
  .exact⟨_,hd⟩
  .cases hc
 |ialt i a r=>
  obtain⟨_,d,hd,hc⟩:=I4 h;split at hc
  .exact⟨_,hd⟩
  .cases hc
 |_=>simp[Ty.isIface]at hi
def Ty.isAgg:Ty->Bool
 | .agg _=>true
 | .arr _ _=>true
 |_=>false
theorem Lay.isAgg{t:Ty}{id:Nat}(h:Lay P t id):∃d,P.underlying id=some d/\(match d with| .struct _| .array _ _=>true|_=>false)=t.isAgg:=by
 cases t with
 |agg p=>obtain⟨fs,h1,_⟩:=h.agg;exact⟨_,h1,rfl⟩
 |arr n e=>obtain⟨el,h1,_⟩:=h.arr;exact⟨_,h1,rfl⟩
 |prod a b=>simp[Lay,layB]at h
 |unit=>simp[Lay,layB]at h
 |slice e=>obtain⟨el,h1,_⟩:=h.slice;exact⟨_,h1,rfl⟩
 |map k v=>obtain⟨a,b,h1,_⟩:=h.map;exact⟨_,h1,rfl⟩
 |ptr e=>obtain⟨el,h1,_⟩:=h.ptr;exact⟨_,h1,rfl⟩
 |bool=>exact⟨_,h.bool,rfl⟩
 |int k=>exact⟨_,h.int,rfl⟩
 |str=>exact⟨_,h.str,rfl⟩
 |inil=>obtain⟨ms,h1⟩:=h.iface rfl;exact⟨_,h1,rfl⟩
 |self=>
  obtain⟨_,d,hd,hc⟩:=I4 h;split at hc
  .exact⟨_,hd,rfl⟩
  .cases hc
 |opq=>
  obtain⟨_,d,hd,hc⟩:=I4 h;split at hc<;>first|exact⟨_,hd,rfl⟩|cases hc
 |fnc a b=>
  obtain⟨_,d,hd,hc⟩:=I4 h;split at hc
  .exact⟨_,hd,rfl⟩
  .cases hc
 |ialt i a r=>
  obtain⟨_,d,hd,hc⟩:=I4 h;split at hc
  .exact⟨_,hd,rfl⟩
  .cases hc
theorem TN:∀{p:Ty} {l:List Field} {off:Nat},(layB P p).2 l off=true->l.length=p.fields/\∀f F,l[f]?=some F->
 ∃u o,p.sub (G4 p.fields f)=some u/\p.off (G4 p.fields f)=some o/\F.offset=off+o/\Lay P u F.type:=by
 intro p
 have leaf:∀{t:Ty} {c:TypeDesc->Bool} {l:List Field} {off:Nat},t.fields=1->(∀id,(layB.one P t c).1 id=true->Lay P t id)->
  (layB.one P t c).2 l off=true->l.length=t.fields/\∀f F,l[f]?=some F->
   ∃u o,t.sub (G4 t.fields f)=some u/\t.off (G4 t.fields f)=some o/\F.offset=off+o/\Lay P u F.type:=by
  intro t c l off h1 hl h;simp only[layB.one]at h;split at h
  .rename_i g;simp only[A4]at h;have hg:=A2 h.1;refine⟨by rw[h1];rfl,λf F hf=>?_⟩
   have hf0:f=0/\g=F:=by
    cases f with
    |zero=>exact⟨rfl,by simpa using hf⟩
    |succ f=>simp at hf
   obtain⟨rfl,rfl⟩:=hf0;rw[h1];refine⟨t,0,by cases t<;>rfl,by cases t<;>rfl,o5,hl _ ?_⟩;simp only[layB.one,A4];exact h.2
  .cases h
 induction p with
 |prod a b iha ihb=>
  intro l off h;simp only[layB]at h;split at h
  .rename_i g r;simp only[A4]at h;obtain⟨h1,h2,h3,h4⟩:=h;have hg:=A2 h1;have hb0:0<b.fields:=by rwa[BW]at h4
   obtain⟨k1,k2⟩:=ihb h3;refine⟨by simp[Ty.fields,k1],λf F hf=>?_⟩;have hb:∃m,b.fields=m:=⟨_,rfl⟩;obtain⟨m,hm⟩:=hb;cases m with
   |zero=>omega
   |succ m=>
    cases f with
    |zero=>
     have hF:g=F:=by simpa using hf
     subst hF;refine⟨a,0,?_,?_,o5,h2⟩
     .simp only[Ty.fields,hm,G4,Ty.sub,AC]
     .simp only[Ty.fields,hm,G4,Ty.off,AC]
    |succ f=>
     obtain⟨u,o,q1,q2,q3,q4⟩:=k2 f F (by simpa using hf);refine⟨u,a.sz+o,?_,?_,o5,q4⟩
     .simp only[Ty.fields,hm,G4,Ty.sub,AA];rw[<-hm];exact q1
     .simp only[Ty.fields,hm,G4,Ty.off,AA];rw[<-hm,q2];rfl
  .cases h
 |unit=>
  intro l off h;simp only[layB]at h;split at h
  .exact⟨rfl,λf F hf=>by simp at hf⟩
  .cases h
 |_=>intro l off h;exact leaf rfl (λid h=>h) h
end
structure MemS(P:Program)(fr:Fr)(free:Nat→Prop)(σ:Nat→Option Obj)(w:World)(G:Gh):Prop where
 objs:∀k o,σ k=some o->ObjOK P fr w G k o
 sep:∀j k o o' b,σ j=some o→σ k=some o'→Bk G j o b→Bk G k o' b→j=k
 after:After fr.gv fr.w0 fr.i0 w G.im
 fresh:∀k,free k->σ k=none/\G.ety k=none/\G.box k=none/\∀g,G.val k g=none
def HO(free:Nat->Prop)(self:Nat):Nat->Prop:=λk=>free k/\IH self k=false
def Res(P:Program)(fr:Fr)(free:Nat->Prop)(self:Nat)(σ:SSo)(w:World)(G:Gh)(u:Upd)(v:Value)(w':World):Prop:=
 ∃G',GLe w G w' G'/\MemS P fr (HO free self) (EK σ u.wr) w' G'/\SR P w' G' u.sv v
inductive Gives:OpRes->Upd->Prop
 |pure (u:Upd):Gives (.pure u) u
 |may {α:Type} {m:Option α} {d:α} {f:α->Upd} {x:α} (h:m=some x):Gives (.may α m d f) (f x)
theorem Gives.pure_inv{u u':Upd}(h:Gives (.pure u) u'):u'=u:=by cases h;rfl
theorem Gives.v_inv{s:SV}{u:Upd}(h:Gives (.v s) u):u=⟨s,[]⟩:=h.pure_inv
theorem Gives.may_inv{α:Type}{m:Option α}{d:α}{f:α->Upd}{u:Upd}(h:Gives (.may α m d f) u):∃x,m=some x/\u=f x:=by
 cases h with
 |may h=>exact⟨_,h,rfl⟩
section
variable{P:Program}{fr:Fr}{free:Nat->Prop}{self:Nat}{σ:SSo}{w:World}{G:Gh}
theorem MemS.shrink{free':Nat->Prop}(h:MemS P fr free σ w G)(hf:∀k,free' k->free k):MemS P fr free' σ w G:=
 ⟨h.objs,h.sep,h.after,λk hk=>h.fresh k (hf k hk)⟩
theorem Res.same{s:SV}{v:Value}(hm:MemS P fr free σ w G)(hv:SR P w G s v):Res P fr free self σ w G ⟨s,[]⟩ v w:=
 ⟨G,GLe.refl _ _,hm.shrink λ_ h=>h.1,hv⟩
def Done(P:Program)(dr:Bool)(o:Oper)(a:Act)(w:World)(R:Value->World->Prop):Prop:=
 ∀(Q:Exit->Act->World->Prop) (next:Act->World->Prop),(∀v w',R v w'->(dr=true->w.drawn<=w'.drawn)->next (a.put o.dst v) w')->o.wp P a w next Q
theorem Done.value{dr:Bool}{o:Oper}{a:Act}{w w':World}{R:Value->World->Prop}{v:Value}(h:(execOp a.eval o).run P w=.ok (.value v) w')(hr:R v w'):Done P dr o a w R:=by
 intro Q next hn
 unfold Oper.wp;rw[h];exact hn v w' hr λ_=>fG _ _ _ _ h
theorem Done.skip{dr:Bool}{o:Oper}{a:Act}{w w':World}{R:Value->World->Prop}(h:(execOp a.eval o).run P w=.ok .skip w')(hr:R undef w'):Done P dr o a w R:=by
 intro Q next hn
 unfold Oper.wp;rw[h];exact hn undef w' hr λ_=>fG _ _ _ _ h
theorem Done.enter{dr:Bool}{o:Oper}{a:Act}{w w':World}{R:Value->World->Prop}{f:FuncId}{args:Array Value}
 (h:(execOp a.eval o).run P w=.ok (.enter f args) w')(hc:Calls P f args w' λe w''=>∃v,e=.returned v/\R v w''/\(dr=true->w'.drawn<=w''.drawn)):Done P dr o a w R:=by
 intro Q next hn
 unfold Oper.wp;rw[h];refine Calls.mono hc λe w'' he=>?_;obtain⟨v,rfl,hr,hd⟩:=he;exact hn v w'' hr λhdr=>AU (fG _ _ _ _ h) (hd hdr)
theorem Done.mono{dr:Bool}{o:Oper}{a:Act}{w:World}{R R':Value->World->Prop}(h:Done P dr o a w R)(hr:∀v w',R v w'->R' v w'):Done P dr o a w R':=
 λQ next hn=>h Q next λv w' hv hd=>hn v w' (hr v w' hv) hd
theorem SR.int{k:IntKind}{n:Int}{v:Value}(h:SR P w G (.val (.int k) n) v):v=.int k n/\G6 k n:=by
 obtain⟨c,h1,h2,h3⟩:=h;have h1':c=[v]:=h1;subst h1';cases h2;exact⟨rfl,h3⟩
theorem SR.mk_int{k:IntKind}{n:Int}(h:G6 k n):SR P w G (.val (.int k) n) (.int k n):=⟨_,rfl,rfl,h⟩
theorem SR.bool{b:Bool}{v:Value}(h:SR P w G (.val .bool b) v):v=.bool b:=by
 obtain⟨c,h1,h2⟩:=h;have h1':c=[v]:=h1;subst h1';have h2':[v]=[.bool b]:=h2;cases h2';rfl
theorem SR.mk_bool(b:Bool):SR P w G (.val .bool b) (.bool b):=⟨_,rfl,rfl⟩
theorem SR.str{s:DW}{v:Value}(h:SR P w G (.val .str s) v):v=.string ⟨s.toArray⟩/\s.length<=281474976710656:=by
 obtain⟨c,h1,h2,h3⟩:=h;have h1':c=[v]:=h1;subst h1';cases h2;exact⟨rfl,h3⟩
theorem SR.mk_str{s:DW}(h:s.length<=281474976710656):SR P w G (.val .str s) (.string ⟨s.toArray⟩):=⟨_,rfl,rfl,h⟩
theorem SR.val{t:Ty}{x:t.T}{v:Value}(h:SR P w G (.val t x) v):VRel w G.im t x v:=h
theorem LH(k:IntKind)(n:Int):G6 k (k.wrap n):=by
 cases k<;>simp[G6,IntKind.wrap,IntKind.min,IntKind.max,IntKind.signed,IntKind.bits]<;>omega
theorem A8B(a b:DW):(⟨a.toArray⟩:ByteArray)++⟨b.toArray⟩=⟨(a++b).toArray⟩:=by
 apply ByteArray.ext;simp[ByteArray.data_append]
theorem tV(a:DW):(⟨a.toArray⟩:ByteArray).toList=a:=by rw[ByteArray.toList_eq]
theorem K5(a:DW):(⟨a.toArray⟩:ByteArray).size=a.length:=by simp[ByteArray.size]
theorem A8C{k l:IntKind}{x y z:Int}{t:TypeId}(h:shl? k x y=some z):(binOp .shl t (.int k x) (.int l y)).run P w=.ok (.int k z) w/\G6 k z:=by
 unfold shl? at h;by_cases h0:y<0
 .rw[show decide (y<0)=true by simpa using h0]at h;cases h
 .rw[show decide (y<0)=false by simpa using h0]at h;cases h;exact⟨by simp[binOp,Op.shift,h0],LH _ _⟩
theorem A8D{k:IntKind}{x:Int}(h:G6 k x)(n:Nat):G6 k (x.fdiv (2 ^ n)):=by
 have hp:(0:Int)<2 ^ n:=Int.pow_pos od;rw[DM _ (Int.le_of_lt hp)];have hmin:k.min<=0:=(TM k).1;have hmax:0<=k.max:=(TM k).2;have h1:(1:Int)<=2 ^ n:=hp;unfold G6 at *;by_cases hs:0<=x
 .have a1:=Int.ediv_nonneg hs (Int.le_of_lt hp);have a2:x / 2 ^ n<=x:=Int.ediv_le_self _ hs;omega
 .have a1:x / 2 ^ n<0:=Int.ediv_neg_of_neg_of_pos o5 hp
  have a2:x<=x / 2 ^ n:=by
   rw[Int.le_ediv_iff_mul_le hp];have:=Int.mul_le_mul_of_nonpos_left (a:=x) (b:=2 ^ n) (c:=1) o5 h1;rw[Int.mul_one]at this;exact this
  omega
theorem A8E{k l:IntKind}{x y z:Int}{t:TypeId}(hx:G6 k x)(h:shr? k x y=some z):(binOp .shr t (.int k x) (.int l y)).run P w=.ok (.int k z) w/\G6 k z:=by
 unfold shr? at h;by_cases h0:y<0
 .rw[show decide (y<0)=true by simpa using h0]at h;cases h
 .rw[show decide (y<0)=false by simpa using h0]at h;cases h;exact⟨by simp[binOp,Op.shift,h0],A8D hx _⟩
theorem A8F{op:BinOp}{k:IntKind}{x y:Int}{r:OpRes}{u:Upd}(hr:fS op k x y=some r)(hu:Gives r u)
 (hx:G6 k x)(hy:G6 k y)(t:TypeId):u.wr=[]/\∃v,(binOp op t (.int k x) (.int k y)).run P w=.ok v w/\SR P w G u.sv v:=by
 cases op<;>simp only[fS,AM]at hr<;>first|(cases hr;done)|skip
 case add=>subst hr;rw[hu.v_inv];exact⟨rfl,_,by simp[binOp,Op.intArith],SR.mk_int (LH _ _)⟩
 case sub=>subst hr;rw[hu.v_inv];exact⟨rfl,_,by simp[binOp,Op.intArith],SR.mk_int (LH _ _)⟩
 case mul=>subst hr;rw[hu.v_inv];exact⟨rfl,_,by simp[binOp,Op.intArith],SR.mk_int (LH _ _)⟩
 case quo=>
  subst hr;obtain⟨z,hz,rfl⟩:=hu.may_inv;unfold div? at hz;by_cases h0:y=0
  .subst h0;simp at hz
  .have:(y==0)=false:=by simpa using h0
   rw[this]at hz;simp only[AC,AM]at hz;subst hz;exact⟨rfl,_,by simp[binOp,Op.intDiv,h0],SR.mk_int (LH _ _)⟩
 case rem=>
  subst hr;obtain⟨z,hz,rfl⟩:=hu.may_inv;unfold mod? at hz;by_cases h0:y=0
  .subst h0;simp at hz
  .have:(y==0)=false:=by simpa using h0
   rw[this]at hz;simp only[AC,AM]at hz;subst hz;refine⟨rfl,_,by simp[binOp,Op.intDiv,h0],SR.mk_int ?_⟩;have h1:(x.tmod y).natAbs<=x.natAbs:=by rw[Int.natAbs_tmod];exact Nat.mod_le _ _
   have h2:0<=x->0<=x.tmod y:=λh=>Int.tmod_nonneg _ h
   have h3:x<=0->x.tmod y<=0:=λh=>by
    have:=Int.tmod_nonneg y (show 0<= -x by omega);rw[Int.neg_tmod]at this;omega
   have hmin:k.min<=0:=(TM k).1;have hmax:0<=k.max:=(TM k).2;unfold G6 at *;by_cases hs:0<=x
   .have:=h2 hs;omega
   .have:=h3 o5;omega
 case eql=>subst hr;rw[hu.v_inv];refine⟨rfl,.bool (x==y),by simp[binOp,Op.intCmp],?_⟩;exact SR.mk_bool _
 case neq=>subst hr;rw[hu.v_inv];refine⟨rfl,.bool (x !=y),by simp[binOp,Op.intCmp],?_⟩;exact SR.mk_bool _
 case lss=>subst hr;rw[hu.v_inv];exact⟨rfl,_,by simp[binOp,Op.intCmp],SR.mk_bool _⟩
 case leq=>subst hr;rw[hu.v_inv];exact⟨rfl,_,by simp[binOp,Op.intCmp],SR.mk_bool _⟩
 case gtr=>subst hr;rw[hu.v_inv];exact⟨rfl,.bool (decide (x > y)),by simp[binOp,Op.intCmp],SR.mk_bool _⟩
 case geq=>subst hr;rw[hu.v_inv];exact⟨rfl,.bool (decide (x ≥ y)),by simp[binOp,Op.intCmp],SR.mk_bool _⟩
 case and=>subst hr;rw[hu.v_inv];exact⟨rfl,_,by simp[binOp,Op.intBits,KP],SR.mk_int (LH _ _)⟩
 case or=>subst hr;rw[hu.v_inv];exact⟨rfl,_,by simp[binOp,Op.intBits,HA],SR.mk_int (LH _ _)⟩
 case xor=>subst hr;rw[hu.v_inv];exact⟨rfl,_,by simp[binOp,Op.intBits,sV],SR.mk_int (LH _ _)⟩
 case andNot=>subst hr;rw[hu.v_inv];exact⟨rfl,_,by simp[binOp,Op.intBits,WV],SR.mk_int (LH _ _)⟩
theorem A8G{op:BinOp}{x y:DW}{r:OpRes}{u:Upd}(hr:fT op x y=some r)(hu:Gives r u)(t:TypeId):
 u.wr=[]/\∃v,(binOp op t (.string ⟨x.toArray⟩) (.string ⟨y.toArray⟩)).run P w=.ok v w/\SR P w G u.sv v:=by
 cases op<;>simp only[fT,AM]at hr<;>first|(cases hr;done)|skip
 case add=>
  subst hr;obtain⟨z,hz,rfl⟩:=hu.may_inv;unfold cat? at hz;by_cases h0:x.length+y.length<=281474976710656
  .have h1:decide (x.length+y.length<=281474976710656)=true:=by simpa using h0
   rw[h1]at hz;simp only[AA,AM]at hz;subst hz;refine⟨rfl,.string (⟨x.toArray⟩++⟨y.toArray⟩),?_,?_⟩
   .simp only[binOp];rw[run_string_add_sum];rw[K5,K5];omega
   .rw[A8B];exact SR.mk_str og
  .have h1:decide (x.length+y.length<=281474976710656)=false:=by simpa using h0
   rw[h1]at hz;cases hz
 case eql=>subst hr;rw[hu.v_inv];refine⟨rfl,.bool (x==y),by simp[binOp,Op.stringOp],?_⟩;exact SR.mk_bool _
 case neq=>subst hr;rw[hu.v_inv];refine⟨rfl,.bool (!(x==y)),by simp[binOp,Op.stringOp],?_⟩;exact SR.mk_bool _
 case lss=>subst hr;rw[hu.v_inv];refine⟨rfl,.bool (Op.bytesLess x y),by simp[binOp,Op.stringOp],?_⟩;exact SR.mk_bool _
 case leq=>subst hr;rw[hu.v_inv];refine⟨rfl,.bool (Op.bytesLess x y||x==y),by simp[binOp,Op.stringOp],?_⟩;exact SR.mk_bool _
 case gtr=>subst hr;rw[hu.v_inv];refine⟨rfl,.bool (!(Op.bytesLess x y||x==y)),by simp[binOp,Op.stringOp],?_⟩;exact SR.mk_bool _
 case geq=>subst hr;rw[hu.v_inv];refine⟨rfl,.bool (!(Op.bytesLess x y)),by simp[binOp,Op.stringOp],?_⟩;exact SR.mk_bool _
theorem XR{op:BinOp}{t:TypeId}{x y:Operand}{v v':Value}(h1:∀cs,v≠.agg cs)(h2:v≠.nilIface):
 (eqGuard op t x y v v').run P w=.ok () w:=by
 cases v<;>first|exact absurd rfl (h1 _)|exact absurd rfl h2|(cases op<;>rfl)
theorem A8H{op:BinOp}{x y:Bool}{r:OpRes}{u:Upd}(hr:fU op x y=some r)(hu:Gives r u){t:TypeId}(ht:P.underlying t=some .bool):
 u.wr=[]/\∃v,(binOp op t (.bool x) (.bool y)).run P w=.ok v w/\SR P w G u.sv v:=by
 have hd:∀d,(Op.equalIn (d+1) t (.bool x) (.bool y)).run P w=.ok (x==y) w:=by
  intro d;simp[Op.equalIn,run_underlying ht]
 have he:(Op.equal t (.bool x) (.bool y)).run P w=.ok (x==y) w:=hd 9999;cases op<;>simp only[fU,AM]at hr<;>first|(cases hr;done)|skip
 case eql=>subst hr;rw[hu.v_inv];exact⟨rfl,.bool (x==y),by simp[binOp,he],SR.mk_bool _⟩
 case neq=>subst hr;rw[hu.v_inv];exact⟨rfl,.bool (!(x==y)),by simp[binOp,he],SR.mk_bool _⟩
theorem hP{op:BinOp}{b:Bool}{r:OpRes}{u:Upd}(hr:LD op b=some r)(hu:Gives r u){t:TypeId}{v v':Value}(h1:∀cs,v≠.agg cs)(h2:v≠.nilIface)(x y:Operand)
 (he:(Op.equal t v v').run P w=.ok b w)(hn:∀k n,v≠.int k n)(hf:∀k n,v≠.float k n)(hc:∀k n m,v≠.complex k n m)(hs:∀s,v≠.string s):
 u.wr=[]/\∃z,((do eqGuard op t x y v v';binOp op t v v':Sem Value)).run P w=.ok z w/\SR P w G u.sv z:=by
 have run:∀{z:Value},(binOp op t v v').run P w=.ok z w->((do eqGuard op t x y v v';binOp op t v v':Sem Value)).run P w=.ok z w:=by
  intro z hz;rw[Sem.run_bind,XR h1 h2];exact hz
 cases op<;>simp only[LD,AM]at hr<;>first|(cases hr;done)|skip
 case eql=>
  subst hr;rw[hu.v_inv];refine⟨rfl,.bool b,run ?_,SR.mk_bool _⟩;cases v<;>first|exact absurd rfl (hn _ _)|exact absurd rfl (hf _ _)|exact absurd rfl (hc _ _ _)|exact absurd rfl (hs _)|simp[binOp,he]
 case neq=>
  subst hr;rw[hu.v_inv];refine⟨rfl,.bool (!b),run ?_,SR.mk_bool _⟩;cases v<;>first|exact absurd rfl (hn _ _)|exact absurd rfl (hf _ _)|exact absurd rfl (hc _ _ _)|exact absurd rfl (hs _)|simp[binOp,he]
theorem A8I{op:BinOp}{ty:Option Ty}{s s':SV}{v v':Value}{r:OpRes}{u:Upd}(hr:fV op ty s s'=some r)(hu:Gives r u)(h:SR P w G s v)(h':SR P w G s' v'){t:TypeId}(hl:∀q,ty=some q->Lay P q t)(x y:Operand):
 u.wr=[]/\∃z,((do eqGuard op t x y v v';binOp op t v v':Sem Value)).run P w=.ok z w/\SR P w G u.sv z:=by
 have nilV:SR P w G .nilS v'->v'=.slice none 0 0:=λh=>by
  obtain⟨c,h1,h2⟩:=h;exact A5.1 ((show c=[v']from h1).symm.trans h2)
 have nilV0:SR P w G .nilS v->v=.slice none 0 0:=λh=>by
  obtain⟨c,h1,h2⟩:=h;exact A5.1 ((show c=[v]from h1).symm.trans h2)
 have nilP:SR P w G .nilP v'->v'=.pointer none:=λh=>by
  obtain⟨c,h1,h2⟩:=h;exact A5.1 ((show c=[v']from h1).symm.trans h2)
 have nilP0:SR P w G .nilP v->v=.pointer none:=λh=>by
  obtain⟨c,h1,h2⟩:=h;exact A5.1 ((show c=[v]from h1).symm.trans h2)
 unfold fV at hr;split at hr
 .rename_i e;obtain⟨el,hun,_⟩:=(hl _ rfl).slice
  have hd:∀{a:Option Addr} {n m:Nat},(Op.equal t (.slice a n m) (.slice none 0 0)).run P w=.ok a.isNone w:=by
   intro a n m
   have:∀d,(Op.equalIn (d+1) t (.slice a n m) (.slice none 0 0)).run P w=.ok a.isNone w:=by
    intro d;cases a<;>simp[Op.equalIn,run_underlying hun]
   exact this 9999
  split at hr
  .obtain⟨c,hc,_,ad,n,m,h2⟩:=h;have hv:v=.slice (some ad) n m:=A5.1 ((show c=[v]from hc).symm.trans h2);rw[hv,nilV h'];exact hP hr hu (by intro _ h;cases h) ou x y hd (by intro _ _ h;cases h) (by intro _ _ h;cases h) (by intro _ _ _ h;cases h) (by intro _ h;cases h)
  .rw[nilV0 h,nilV h'];exact hP hr hu (by intro _ h;cases h) ou x y hd (by intro _ _ h;cases h) (by intro _ _ h;cases h) (by intro _ _ _ h;cases h) (by intro _ h;cases h)
  .cases hr
 .rename_i e;obtain⟨el,hun,_⟩:=(hl _ rfl).ptr
  have hd:∀{a:Option Addr},(Op.equal t (.pointer a) (.pointer none)).run P w=.ok a.isNone w:=by
   intro a
   have:∀d,(Op.equalIn (d+1) t (.pointer a) (.pointer none)).run P w=.ok a.isNone w:=by
    intro d;cases a<;>simp[Op.equalIn,run_underlying hun]
   exact this 9999
  have fin:∀{a:Option Addr} {b:Bool},v=.pointer a->a.isNone=b->SR P w G .nilP v'->LD op b=some r->u.wr=[]/\∃z,((do eqGuard op t x y v v';binOp op t v v':Sem Value)).run P w=.ok z w/\SR P w G u.sv z:=by
   intro a b hv hb h' hr;subst hv hb;rw[nilP h'];exact hP hr hu (by intro _ h;cases h) ou x y hd (by intro _ _ h;cases h) (by intro _ _ h;cases h) (by intro _ _ _ h;cases h) (by intro _ h;cases h)
  split at hr
  .rename_i e' p;obtain⟨c,hc,h2⟩:=h;have hc:c=[v]:=hc;cases p with
   |none=>exact fin (a:=none) (A5.1 (hc.symm.trans h2)) rfl h' hr
   |some y=>
    obtain⟨ad,h3,_⟩:=h2;exact fin (a:=some ad) (A5.1 (hc.symm.trans h3)) rfl h' hr
  .obtain⟨c,hc,ad,c',h3,_⟩:=h;exact fin (a:=some ad) (A5.1 ((show c=[v]from hc).symm.trans h3)) rfl h' hr
  .obtain⟨c,hc,b,t',o,_,_,_,h3⟩:=h;exact fin (a:=some ⟨b,o,none⟩) (A5.1 ((show c=[v]from hc).symm.trans h3)) rfl h' hr
  .exact fin (a:=none) (nilP0 h) rfl h' hr
  .cases hr
 .cases hr
theorem A8J{op:BinOp}{s s':SV}{v v':Value}{r:OpRes}{u:Upd}(hr:WW op s s'=some r)(hu:Gives r u)
 (h:SR P w G s v)(h':SR P w G s' v')(t:TypeId)(x y:Operand)(hb:∀b,s=.val .bool b->P.underlying t=some .bool):
 u.wr=[]/\∃z,((do eqGuard op t x y v v';binOp op t v v':Sem Value)).run P w=.ok z w/\SR P w G u.sv z:=by
 unfold WW at hr;split at hr
 .rename_i k a l b;obtain⟨rfl,ha⟩:=h.int;obtain⟨rfl,hb⟩:=h'.int
  have hrun:∀{z:Value},(binOp op t (.int k a) (.int l b)).run P w=.ok z w->((do eqGuard op t x y (.int k a) (.int l b);binOp op t (.int k a) (.int l b):Sem Value)).run P w=.ok z w:=by
   intro z hz;rw[Sem.run_bind,XR (by intro cs h;cases h) ou];exact hz
  split at hr
  .cases hr;obtain⟨z,hz,rfl⟩:=hu.may_inv;obtain⟨z1,z2⟩:=A8C (P:=P) (w:=w) (l:=l) (t:=t) hz;exact⟨rfl,_,hrun z1,SR.mk_int z2⟩
  .cases hr;obtain⟨z,hz,rfl⟩:=hu.may_inv;obtain⟨z1,z2⟩:=A8E (P:=P) (w:=w) (l:=l) (t:=t) ha hz;exact⟨rfl,_,hrun z1,SR.mk_int z2⟩
  .by_cases hk:L9 k l=true
   .rw[hk]at hr;have:=PQ hk;subst this;obtain⟨h1,z,h2,h3⟩:=A8F (P:=P) (w:=w) (G:=G) hr hu ha hb t;exact⟨h1,z,hrun h2,h3⟩
   .rw[show L9 k l=false by simpa using hk]at hr;cases hr
 .rename_i a b;obtain⟨rfl,_⟩:=h.str;obtain⟨rfl,_⟩:=h'.str;obtain⟨h1,z,h2,h3⟩:=A8G (P:=P) (w:=w) (G:=G) hr hu t;refine⟨h1,z,?_,h3⟩;rw[Sem.run_bind,XR (by intro cs h;cases h) ou];exact h2
 .rename_i a b;have e1:=h.bool;have e2:=h'.bool;subst e1 e2;obtain⟨h1,z,h2,h3⟩:=A8H (P:=P) (w:=w) (G:=G) hr hu (hb _ rfl);refine⟨h1,z,?_,h3⟩;rw[Sem.run_bind,XR (by intro cs h;cases h) ou];exact h2
 .cases hr
theorem A8K{op:UnOp}{s:SV}{v:Value}{r:OpRes}{u:Upd}(hr:fW op s=some r)(hu:Gives r u)(h:SR P w G s v):
 u.wr=[]/\∃z,(Op.unary op v).run P w=.ok z w/\SR P w G u.sv z:=by
 unfold fW at hr;split at hr
 .rename_i b;have:=h.bool;subst this;cases op<;>simp only[AM]at hr<;>first|(cases hr;done)|skip
  subst hr;rw[hu.v_inv];exact⟨rfl,.bool (!b),by simp[Op.unary],SR.mk_bool _⟩
 .rename_i k n;obtain⟨rfl,_⟩:=h.int;cases op<;>simp only[AM]at hr<;>first|(cases hr;done)|skip
  subst hr;rw[hu.v_inv];exact⟨rfl,_,by simp[Op.unary,Op.intArith],SR.mk_int (LH _ _)⟩
 .cases hr
theorem SR.cast{t u:Ty}{x:t.T}{y:u.T}{v:Value}(h:Ty.cast? t u x=some y)(hr:SR P w G (.val t x) v):SR P w G (.val u y) v:=
 VRel.cast h hr
theorem A8L{s s1 s2:SV}{v v1 v2:Value}{r:OpRes}{u:Upd}(hr:fX s s1 s2=some r)(hu:Gives r u)
 (h:SR P w G s v)(h1:v=.bool true->SR P w G s1 v1)(h2:v=.bool false->SR P w G s2 v2):
 u.wr=[]/\∃b,v=.bool b/\SR P w G u.sv (if b then v1 else v2):=by
 unfold fX at hr;split at hr
 .rename_i c t x q y;split at hr
  .rename_i z hz;simp only[AM]at hr;subst hr;rw[hu.v_inv];have:=h.bool;subst this;refine⟨rfl,c,rfl,?_⟩;cases c with
   |true=>exact h1 rfl
   |false=>exact SR.cast hz (h2 rfl)
  .cases hr
 .cases hr
theorem SV.list_ok:∀{l:SV} {vs:List Value},CR P w G l vs->∀(i:Nat) (s:SV),l.list[i]?=some s->∃v,vs[i]?=some v/\SR P w G s v:=by
 intro l;induction l with
 |scons a b iha ihb=>
  intro vs h i s hi;obtain⟨v,r,rfl,⟨c,h2,h3⟩,h4⟩:=h;cases i with
  |zero=>
   have:a=s:=by simpa[SV.list]using hi
   subst this;exact⟨v,rfl,c,h2,h3⟩
  |succ i=>
   obtain⟨v',hv,hs⟩:=ihb h4 i s (by simpa[SV.list]using hi);exact⟨v',oz,hs⟩
 |_=>intro vs h i s hi;simp[SV.list]at hi
theorem A8M{s:SV}{v:Value}{i:Nat}{r:OpRes}{u:Upd}(hr:gF s i=some r)(hu:Gives r u)(h:SR P w G s v):
 u.wr=[]/\∃z,(Instr.extract v i).run P w=.ok z w/\SR P w G u.sv z:=by
 unfold gF at hr;split at hr
 .rename_i l i;split at hr
  .rename_i q hq;simp only[AM]at hr;subst hr;rw[hu.v_inv];obtain⟨c,h1,vs,h2,h3⟩:=h;have h1':c=[v]:=h1;rw[h1']at h2;injection h2 with h4 _;subst h4;obtain⟨z,hz,hs⟩:=SV.list_ok h3 _ _ hq;rw[BE]at hz;exact⟨rfl,z,by simp[Instr.extract,hz],hs⟩
  .cases hr
 .cases hr
theorem hU{I:Im}{e:Ty}{xs:List e.T}{v:Value}(h:VRel w I (.slice e) xs v):
 ∃a cap,v=.slice a xs.length cap/\GL xs.length cap/\(a=none->xs=[]/\cap=0)/\
  ∀ad,a=some ad->(cap≠0->ad.spot=none)/\∀i x,xs[i]?=some x->∃c,Row w I ad.block (ad.off+i*e.sz) e.sz c/\Rel w I e x c:=by
 obtain⟨c,h1,a,cap,h2,h3,h4,h5⟩:=h;have h1':c=[v]:=h1;subst h1';injection h2 with h6 _;exact⟨a,cap,h6,h3,h4,h5⟩
theorem tW{I:Im}{e:Ty}{xs:List e.T}{a:Option Addr}{cap:Nat}(h1:GL xs.length cap)(h2:a=none->xs=[]/\cap=0)
 (h3:∀ad,a=some ad->(cap≠0->ad.spot=none)/\∀i x,xs[i]?=some x->∃c,Row w I ad.block (ad.off+i*e.sz) e.sz c/\Rel w I e x c):
 VRel w I (.slice e) xs (.slice a xs.length cap):=⟨_,rfl,a,cap,rfl,h1,h2,h3⟩
theorem at?_some{α:Type}{l:List α}{i:Int}{x:α}(h:at? l i=some x):0<=i/\i.toNat<l.length/\l[i.toNat]?=some x:=by
 unfold at? at h;by_cases h0:0<=i
 .rw[show decide (0<=i)=true by simpa using h0]at h;exact⟨h0,(A8.1 h).1,h⟩
 .rw[show decide (0<=i)=false by simpa using h0]at h;cases h
theorem in?_some{n:Nat}{i:Int}{x:Unit}(h:in? n i=some x):0<=i/\i.toNat<n:=by
 unfold in? at h;by_cases h0:0<=i/\i<n
 .exact⟨h0.1,o5⟩
 .have:(decide (0<=i)&&decide (i<(n:Int)))=false:=by
   rw[DH];by_cases h1:0<=i
   .exact .inr og
   .exact .inl ot
  rw[this]at h;cases h
theorem cut?_some{α:Type}{l r:List α}{lo hi:Int}(h:cut? l lo hi=some r):0<=lo/\lo<=hi/\hi<=l.length/\r=(l.take hi.toNat).drop lo.toNat:=by
 unfold cut? at h;by_cases h0:0<=lo/\lo<=hi/\hi<=l.length
 .have:(decide (0<=lo)&&(decide (lo<=hi)&&decide (hi<=(l.length:Int))))=true:=by simp[h0]
  rw[this]at h;exact⟨h0.1,h0.2.1,h0.2.2,(A3 h).symm⟩
 .have:(decide (0<=lo)&&(decide (lo<=hi)&&decide (hi<=(l.length:Int))))=false:=by
   rw[<-BO];simpa using h0
  rw[this]at h;cases h
theorem hY(b:UInt8):G6 .u8 (b.toNat:Int):=by
 have:=b.toNat_lt;unfold G6;simp[IntKind.min,IntKind.max,IntKind.signed,IntKind.bits];omega
theorem OB{I:Im}{e:Ty}{id:Nat}(hl:Lay P e id){x:e.T}{cs:Array Value}{off:Nat}(h:Rel w I e x ((cs.toList.drop off).take e.sz))(hs:off+e.sz<=cs.size):
 ∃v,(part id cs off).run P w=.ok v w/\VRel w I e x v:=by
 obtain⟨d,hd,ha⟩:=hl.isAgg;obtain⟨i,z,hi,hsz,_,_,_⟩:=IU hl.inf;unfold part isAgg;simp only[Sem.run_bind,run_underlying hd,Result.andThen_ok];by_cases hag:e.isAgg=true
 .rw[hag]at ha;refine⟨.agg (cs.extract off (off+e.sz)),?_,((cs.toList.drop off).take e.sz),?_,h⟩
  .have hc:P.cellsOf id=e.sz:=by simp[Program.cellsOf,hi,hsz]
   cases d<;>simp at ha<;>simp[run_sizeOf w hi,hc]
  .have:(cs.extract off (off+e.sz))=((cs.toList.drop off).take e.sz).toArray:=by
    apply C4;simp[Array.toList_extract,List.extract_eq_take_drop]
   rw[this];cases e<;>simp[Ty.isAgg]at hag<;>rfl
 .have hag':e.isAgg=false:=by simpa using hag
  rw[hag']at ha;have hlen:=h.length
  have h1:e.sz=1:=by
   cases e<;>first|rfl|(exfalso;simp[Ty.isAgg]at hag';done)|(exfalso;simp[Lay,layB]at hl;done)
  rw[h1]at h hs;have hlt:off<cs.size:=o5
  have hv:cs[off]?=some cs[off]:=by simp[hlt]
  refine⟨cs[off],?_,[cs[off]],?_,?_⟩
  .cases d<;>simp at ha<;>simp[hv]
  .cases e<;>first|rfl|(exfalso;simp[Ty.isAgg]at hag';done)|(exfalso;simp[Lay,layB]at hl;done)
  .have:(cs.toList.drop off).take 1=[cs[off]]:=by
    rw[CS (by simpa using hlt)];simp
   rw[this]at h;exact h
theorem A8N{id:Nat}(hl:P.underlying id=some .string){i:Int}{k:IntKind}{s:DW}{u:Upd}(hu:Gives (sZ s i) u):
 u.wr=[]/\∃z,(Instr.index id (.string ⟨s.toArray⟩) (.int k i)).run P w=.ok z w/\SR P w G u.sv z:=by
 obtain⟨b,hb,rfl⟩:=hu.may_inv;obtain⟨h1,h2,h3⟩:=at?_some hb;have h4:i.toNat<(⟨s.toArray⟩:ByteArray).size:=by rw[K5];exact h2
 refine⟨rfl,.int .u8 (b.toNat:Int),?_,SR.mk_int (hY b)⟩;rw[run_index_string w id _ k i hl,dif_pos ⟨h1,o5⟩]
 have:(⟨s.toArray⟩:ByteArray)[i.toNat]'h4=b:=by
  have:=(A8.1 h3).2;rw[<-this];rfl
 rw[this]
theorem A8O{n:Nat}{e:Ty}{id:Nat}(hl:Lay P (.arr n e) id){i:Int}{k:IntKind}{xs:List e.T}{v:Value}{u:Upd}(hu:Gives (s_ e xs i) u)(h:SR P w G (.val (.arr n e) xs) v):
 u.wr=[]/\∃z,(Instr.index id v (.int k i)).run P w=.ok z w/\SR P w G u.sv z:=by
 obtain⟨y,hy,rfl⟩:=hu.may_inv;obtain⟨h1,h2,h3⟩:=at?_some hy;obtain⟨cs,hc,hrel⟩:=h.val;have hc':v=.agg cs.toArray:=hc;subst hc';obtain⟨k1,k2,k3⟩:=hrel;obtain⟨el,hun,hle,_,_⟩:=hl.arr;obtain⟨inf,z,hinf,hsz,_,_,_⟩:=IU hle.inf;have hin:i.toNat<n:=by rw[<-k1];exact h2
 have hmul:(i.toNat+1)*e.sz<=n*e.sz:=B1 _ hin;rw[C8]at hmul;obtain⟨z,hz,hv⟩:=OB (P:=P) hle (cs:=cs.toArray) (off:=i.toNat*e.sz) (by simpa using k3 _ _ h3) (by simp[k2];omega);refine⟨rfl,z,?_,hv⟩;unfold Instr.index;have hc2:P.cellsOf el=e.sz:=by simp[Program.cellsOf,hinf,hsz]
 simp only[Sem.run_bind,asIntOf,Sem.run_pure,Result.andThen_ok,run_underlying hun];rw[if_pos ⟨h1,o5⟩];simp only[Sem.run_bind,run_sizeOf w hinf,Result.andThen_ok,hc2];exact hz
theorem A8P{t:Ty}{id:Nat}(hl:Lay P t id){i:Int}{k:IntKind}{s:SV}{v:Value}{r:OpRes}{u:Upd}(hr:gA t i s=some r)(hu:Gives r u)(h:SR P w G s v):
 u.wr=[]/\∃z,(Instr.index id v (.int k i)).run P w=.ok z w/\SR P w G u.sv z:=by
 unfold gA at hr;split at hr
 .split at hr
  .cases hr;obtain⟨rfl,_⟩:=h.str;exact A8N hl.str hu
  .cases hr
 .split at hr
  .split at hr
   .rename_i xs hxs;cases hr;exact A8O hl hu (SR.cast hxs h)
   .cases hr
  .cases hr
 .cases hr
theorem ML{k g:Nat}{v:Value}(h:SR P w G (.obj k g) v):G.val k g=some v:=by
 obtain⟨c,h1,v',h2,_,h3⟩:=h;have h1':c=[v]:=h1;rw[h1']at h3;injection h3 with h4 _;rw[h4];exact h2
theorem hZ{k g:Nat}{v:Value}(h:SR P w G (.obj k g) v):v.oneCell'=true:=by
 obtain⟨c,h1,v',_,h2,h3⟩:=h;have h1':c=[v]:=h1;rw[h1']at h3;injection h3 with h4 _;rw[h4];exact h2
theorem A8Q{k g:Nat}{v:Value}(h:G.val k g=some v)(h1:v.oneCell'=true):SR P w G (.obj k g) v:=⟨_,rfl,v,h,h1,rfl⟩
theorem SlOK.shape{fr:Fr}{el:Nat}{I:Im}{t:Ty}{xs:List t.T}{wr:Bool}{v:Value}(h:SlOK fr w I el t xs wr v):∃a cap,v=.slice a xs.length cap/\xs.length<=281474976710656:=by
 rcases h with⟨rfl,rfl⟩|⟨b,cap,cs,rfl,h,_⟩
 .exact⟨none,0,rfl,BQ _⟩
 .exact⟨_,_,rfl,h.2⟩
theorem A8R{t:Ty}{id:Nat}(hl:Lay P t id)(ho:∀k o,σ k=some o->ObjOK P fr w G k o){s:SV}{v:Value}{r:OpRes}{u:Upd}
 (hr:gC σ t s=some r)(hu:Gives r u)(h:SR P w G s v)(ts:Array TypeId)(hts:ts[0]?=some id)(ty:TypeId):
 u.wr=[]/\∃z,(Builtin.len_ ts ty #[v]).run P w=.ok z w/\SR P w G u.sv z:=by
 have inn:∀{n:Nat},n<=281474976710656->G6 .i64 (n:Int):=by
  intro n h;constructor<;>simp[IntKind.min,IntKind.max,IntKind.signed,IntKind.bits]<;>omega
 have nm:∀{n:Nat},r=T1 n->n<=281474976710656->(Builtin.len_ ts ty #[v]).run P w=.ok (.int .i64 (n:Int)) w->u.wr=[]/\∃z,(Builtin.len_ ts ty #[v]).run P w=.ok z w/\SR P w G u.sv z:=by
  intro n h1 h3 h2;subst h1;rw[hu.v_inv];exact⟨rfl,_,h2,SR.mk_int (inn h3)⟩
 have nk:∀{n:Nat},r=tC n->(Builtin.len_ ts ty #[v]).run P w=.ok (.int .i64 (n:Int)) w->u.wr=[]/\∃z,(Builtin.len_ ts ty #[v]).run P w=.ok z w/\SR P w G u.sv z:=by
  intro n h1 h2;subst h1;obtain⟨y,hy,rfl⟩:=hu.may_inv;unfold len? at hy;cases hb:Nat.ble n 281474976710656 with
  |false=>rw[hb]at hy;cases hy
  |true=>
   rw[hb]at hy;cases hy;exact⟨rfl,_,h2,SR.mk_int (inn (BX hb))⟩
 unfold gC at hr;split at hr
 .split at hr
  .rename_i s;cases hr;obtain⟨rfl,hsl⟩:=h.str;refine nm rfl hsl ?_;simp[Builtin.len_,hts,run_underlying hl.str,goInt];exact congrArg Nat.cast (K5 _)
  .cases hr
 .rename_i n e;cases hb:Nat.ble n 281474976710656 with
  |false=>rw[hb]at hr;cases hr
  |true=>
  rw[hb]at hr;cases hr;obtain⟨el,hun,_,_,_⟩:=hl.arr;refine nm rfl (BX hb) ?_;simp[Builtin.len_,hts,run_underlying hun,goInt]
 .rename_i e;obtain⟨el,hun,hle,_⟩:=hl.slice
  have fin:∀{a:Option Addr} {n cap:Nat},v=.slice a n cap->(Builtin.len_ ts ty #[v]).run P w=.ok (.int .i64 (n:Int)) w:=by
   intro a n cap hv;subst hv;simp[Builtin.len_,hts,run_underlying hun,goInt]
  split at hr
  .rename_i k g;split at hr
   .rename_i e' xs g' wr hk;cases hg:Nat.beq g g' with
    |false=>rw[hg]at hr;cases hr
    |true=>
     rw[hg]at hr;cases hr;have:=A2 hg;subst this;obtain⟨_,v',h1,h2⟩:=ho _ _ hk;rw[ML h]at h1;cases h1;obtain⟨a,cap,hv,hbd⟩:=h2.shape;exact nm rfl hbd (fin hv)
   .rename_i id' r' t' xs gk hh wr hk;cases hg:Nat.beq g 0 with
    |false=>rw[hg]at hr;cases hr
    |true=>
     rw[hg]at hr;cases hr;have:=A2 hg;subst this;obtain⟨a,cap,h1,hbd⟩:=DpOK.shape (xs:=xs) (ho _ _ hk);rw[ML h]at h1;exact nm rfl hbd (fin (A3 h1))
   .cases hr
  .cases hr;obtain⟨c,hc,a,cap,h1,h2⟩:=h;have hv:v=_:=A5.1 ((show c=[v]from hc).symm.trans h1);exact nm rfl h2 (fin hv)
  .split at hr
   .rename_i xs hxs;cases hr;obtain⟨a,cap,hv,hbd,_⟩:=hU (JL hxs h);exact nm rfl hbd.2 (fin hv)
   .cases hr
 .rename_i ka kb;obtain⟨ia,ib,hun,_,_⟩:=hl.map;split at hr
  .rename_i k g;split at hr
   .rename_i ka' kb' es hk;cases hg:Nat.beq g 0 with
    |false=>rw[hg]at hr;cases hr
    |true=>
     rw[hg]at hr;cases hr;have:=A2 hg;subst this;obtain⟨v',h1,b,ents,clock,h2,h3,⟨h4,_⟩,_⟩:=ho _ _ hk;rw[ML h]at h1;cases h1;subst h2;refine nk rfl ?_;have hgo:(getObj b).run P w=.ok (.map ents clock) w:=by simp[getObj,Sem.run,h3]
     simp[Builtin.len_,hts,run_underlying hun,hgo,goInt,h4]
   .cases hr
  .rename_i q x;split at hr
   .rename_i es hes;cases hr;obtain⟨c,h1,hrel⟩:=(SR.cast hes h).val;obtain⟨rr,h2,h3,h4⟩:=hrel;have h1':c=[v]:=h1;rw[h1']at h2;injection h2 with h5 _;subst h5;refine nk rfl ?_;cases rr with
    |none=>
     have h3':=h3 rfl;have hn:List.length (show List (ka.T×kb.T)from es)=0:=by rw[h3'];rfl
     simp[Builtin.len_,hts,run_underlying hun,goInt];exact hn.symm▸rfl
    |some b=>
     obtain⟨_,ents,clock,h6,⟨h7,_⟩,_⟩:=h4 b rfl;have hgo:(getObj b).run P w=.ok (.map ents clock) w:=by simp[getObj,Sem.run,h6]
     simp[Builtin.len_,hts,run_underlying hun,hgo,goInt];exact congrArg Nat.cast h7
   .cases hr
  .cases hr
 .cases hr
def JN(P:Program)(w:World)(G:Gh):Option SV->Option Value->Prop
 |some s,some x=>SR P w G s x
 |none,none=>True
 |_,_=>False
theorem M0{b:Option SV}{v:Option Value}{d n:Int}(hb:NG b d=some n)(h:JN P w G b v):
 (v=none/\n=d)\/∃k,v=some (.int k n):=by
 unfold NG at hb;split at hb
 .rename_i k m;cases v with
  |none=>exact absurd h id
  |some x=>
   obtain⟨rfl,_⟩:=SR.int h;cases hb;exact .inr ⟨_,rfl⟩
 .cases v with
  |none=>cases hb;exact .inl ⟨rfl,rfl⟩
  |some x=>exact absurd h id
 .cases hb
theorem TO{isS:Bool}{len cap:Nat}{lo hi:Option Value}{l h:Int}(h1:(lo=none/\l=0)\/∃k,lo=some (.int k l))(h2:(hi=none/\h=len)\/∃k,hi=some (.int k h))
 (hl:0<=l)(hlh:l<=h)(hh:h<=cap):(Instr.sliceBounds isS len cap lo hi none).run P w=.ok (l.toNat,h.toNat,cap) w:=by
 have e2:h.toNat<=cap:=o5
 rcases h1 with⟨rfl,rfl⟩|⟨k,rfl⟩<;>rcases h2 with⟨rfl,rfl⟩|⟨k',rfl⟩
 .simp[Instr.sliceBounds]
 .simp[Instr.sliceBounds,Instr.sliceBound,asIntOf,show 0<=h by omega,hh]
 .simp[Instr.sliceBounds,Instr.sliceBound,asIntOf,hl,hlh]
 .simp[Instr.sliceBounds,Instr.sliceBound,asIntOf,hl,show 0<=h by omega,hh];omega
theorem A8S{id:Nat}(hl:P.underlying id=some .string){s:DW}{lo hi:Option SV}{vlo vhi:Option Value}{r:OpRes}{u:Upd}(hs:s.length<=281474976710656)
 (hr:gD s lo hi=some r)(hu:Gives r u)(hlo:JN P w G lo vlo)(hhi:JN P w G hi vhi):
 u.wr=[]/\∃z,(Instr.sliceAt id (.string ⟨s.toArray⟩) vlo vhi none).run P w=.ok z w/\SR P w G u.sv z:=by
 unfold gD at hr;split at hr
 .rename_i l h' hbl hbh;cases hr;obtain⟨y,hy,rfl⟩:=hu.may_inv;obtain⟨h1,h2,h3,h4⟩:=cut?_some hy;have hsb:=TO (P:=P) (w:=w) (isS:=false) (len:=s.length) (cap:=s.length) (M0 hbl hlo) (M0 hbh hhi) h1 h2 o5;refine⟨rfl,.string ((⟨s.toArray⟩:ByteArray).extract l.toNat h'.toNat),?_,?_⟩
  .simp only[Instr.sliceAt,Sem.run_bind,run_underlying hl,Result.andThen_ok,Instr.slice,Option.isSome_none,CT,CK];rw[K5,hsb];rfl
  .have:(⟨s.toArray⟩:ByteArray).extract l.toNat h'.toNat=⟨y.toArray⟩:=by
    apply ByteArray.ext;rw[ByteArray.data_extract];apply C4;rw[h4];simp only[List.extract_toArray,List.extract_eq_take_drop];rw[DI]
   rw[this];refine SR.mk_str ?_;rw[h4];simp only[BP,B4];omega
 .cases hr
theorem A8T{e:Ty}{id:Nat}(hl:Lay P (.slice e) id){xs:List e.T}{v:Value}{lo hi:Option SV}{vlo vhi:Option Value}{r:OpRes}{u:Upd}
 (hr:QG e xs lo hi=some r)(hu:Gives r u)(h:VRel w G.im (.slice e) xs v)(hlo:JN P w G lo vlo)(hhi:JN P w G hi vhi):
 u.wr=[]/\∃z,(Instr.sliceAt id v vlo vhi none).run P w=.ok z w/\SR P w G u.sv z:=by
 obtain⟨el,hun,hle,_⟩:=hl.slice;obtain⟨inf,z0,hinf,hisz,_,_,_⟩:=IU hle.inf;have hc2:P.cellsOf el=e.sz:=by simp[Program.cellsOf,hinf,hisz]
 unfold QG at hr;split at hr
 .rename_i l h' hbl hbh;cases hr;obtain⟨y,hy,rfl⟩:=hu.may_inv;obtain⟨h1,h2,h3,h4⟩:=cut?_some hy;obtain⟨a,cap,rfl,⟨k1,k1'⟩,k2,k3⟩:=hU h;have hsb:=TO (P:=P) (w:=w) (isS:=true) (len:=xs.length) (cap:=cap) (M0 hbl hlo) (M0 hbh hhi) h1 h2 o5;have hylen:y.length=h'.toNat-l.toNat:=by rw[h4];simp only[BP,B4];omega
  refine⟨rfl,.slice (if cap=l.toNat then a else a.map (·.add (l.toNat*e.sz))) (h'.toNat-l.toNat) (cap-l.toNat),?_,?_⟩
  .simp only[Instr.sliceAt,Sem.run_bind,run_underlying hun,Result.andThen_ok,Instr.slice,hsb,run_sizeOf w hinf,hc2];rfl
  .rw[<-hylen];refine tW ⟨by rw[hylen];omega,by rw[hylen];omega⟩ ?_ ?_
   .intro hn
    have:a=none:=by
     split at hn
     .exact hn
     .cases a<;>first|rfl|(simp at hn)
    obtain⟨hx,hc0⟩:=k2 this;exact⟨by rw[h4,hx];simp,by rw[hc0];simp⟩
   .intro ad had;by_cases hcap:cap=l.toNat
    .rw[if_pos hcap]at had;refine⟨λhne=>absurd (show cap-l.toNat=0 by omega) hne,λi x hx=>?_⟩;have:y.length=0:=o5
     rw[CD.1 this]at hx;simp at hx
    .rw[if_neg hcap]at had;cases a with
     |none=>simp at had
     |some a0=>
      simp only[BD,AM]at had;obtain⟨q1',q2⟩:=k3 a0 rfl;have q1:=q1' o5
      have hadd:ad=⟨a0.block,a0.off+l.toNat*e.sz,none⟩:=by
       rw[<-had];unfold Addr.add;split
       .rename_i hz;cases a0;simp only at q1 hz ⊢;rw[hz,q1];simp
       .rfl
      subst hadd;refine⟨λ_=>rfl,λi x hx=>?_⟩
      have hx':xs[l.toNat+i]?=some x:=by
       rw[h4,AR,AK]at hx;split at hx
       .exact hx
       .cases hx
      obtain⟨c,hc,hrel⟩:=q2 _ _ hx';refine⟨c,?_,hrel⟩;have:a0.off+l.toNat*e.sz+i*e.sz=a0.off+(l.toNat+i)*e.sz:=by rw[CF,C7]
      show Row w G.im a0.block (a0.off+l.toNat*e.sz+i*e.sz) e.sz c;rw[this];exact hc
 .cases hr
theorem A8U{t:Ty}{id:Nat}(hl:Lay P t id)(ho:∀k o,σ k=some o->ObjOK P fr w G k o){s:SV}{v:Value}{lo hi:Option SV}{vlo vhi:Option Value}{r:OpRes}{u:Upd}
 (hr:gE σ t s lo hi=some r)(hu:Gives r u)(h:SR P w G s v)(hlo:JN P w G lo vlo)(hhi:JN P w G hi vhi):
 u.wr=[]/\∃z,(Instr.sliceAt id v vlo vhi none).run P w=.ok z w/\SR P w G u.sv z:=by
 unfold gE at hr;split at hr
 .split at hr
  .obtain⟨rfl,hsz⟩:=h.str;exact A8S hl.str hsz hr hu hlo hhi
  .cases hr
 .split at hr
  .rename_i xs hxs;exact A8T hl hr hu (II ho hxs h) hlo hhi
  .cases hr
 .cases hr
theorem Lay.sz_pos{t:Ty}{id:Nat}(h:Lay P t id):0<t.sz:=by
 cases t with
 |agg p=>obtain⟨_,_,_,h⟩:=h.agg;exact h
 |arr n e=>obtain⟨_,_,_,h1,h2⟩:=h.arr;exact Nat.mul_pos o5 h1
 |prod a b=>simp[Lay,layB]at h
 |unit=>simp[Lay,layB]at h
 |_=>exact Nat.one_pos
theorem Lay.cells{t:Ty}{id:Nat}(h:Lay P t id):∃i,P.info? id=some i/\P.cellsOf id=t.sz:=by
 obtain⟨i,_,hi,hs,_⟩:=IU h.inf;exact⟨i,hi,by simp[Program.cellsOf,hi,hs]⟩
theorem XS{p:Ty}{id:Nat}(hl:Lay P (.agg p) id){f:Nat}{u:Ty}(hu:p.sub (G4 p.fields f)=some u)(hf:f<p.fields):
 ∃fs F o,P.underlying id=some (.struct fs)/\fs[f]?=some F/\p.off (G4 p.fields f)=some o/\F.offset=o/\Lay P u F.type:=by
 obtain⟨fs,hun,hb,_⟩:=hl.agg;obtain⟨h1,h2⟩:=TN hb;have hlt:f<fs.toList.length:=by rw[h1];exact hf
 obtain⟨u',o,k1,k2,k3,k4⟩:=h2 f _ (A0 hlt);rw[hu]at k1;cases k1;refine⟨fs,fs.toList[f],o,hun,?_,k2,o5,k4⟩;rw[<-BE,A0 hlt]
theorem K6{b o n:Nat}:(⟨b,o,none⟩:Addr).add n=⟨b,o+n,none⟩:=by
 unfold Addr.add;split
 .rename_i h;subst h;rfl
 .rfl
theorem A8V{u:Ty}{F:Field}(hl:Lay P u F.type)(a:Addr):(fieldPlace a F).run P w=.ok (a.add F.offset) w:=by
 obtain⟨i,hi,hc⟩:=hl.cells;have:=hl.sz_pos;have h0:P.cellsOf F.type≠0:=o5
 simp[fieldPlace,run_sizeOf w hi,h0]
theorem A8W:∀{p:List Bool} {t u:Ty} {o:Nat} {q:List Bool},t.off p=some o->t.sub p=some u->t.off (p++q)=(u.off q).map (o + ·)/\t.sub (p++q)=u.sub q:=by
 intro p;induction p with
 |nil=>
  intro t u o q ho hu;have hu':t=u:=by cases t<;>exact A3 hu
  have ho':0=o:=by cases t<;>exact A3 ho
  subst hu' ho';simp
 |cons i r ih=>
  intro t;induction t with
  |prod a b=>
   intro u o q ho hu;cases i with
   |false=>exact ih (t:=a) ho hu
   |true=>
    simp only[Ty.off,AA]at ho;cases hx:b.off r with
    |none=>rw[hx]at ho;cases ho
    |some o'=>
     rw[hx]at ho;cases ho;obtain⟨k1,k2⟩:=ih (t:=b) (q:=q) hx hu;refine⟨?_,k2⟩;simp only[List.cons_append,Ty.off,AA,k1];cases u.off q<;>simp[C7]
  |agg d ihd=>intro u o q ho hu;exact ihd ho hu
  |_=>intro u o q ho hu;cases ho
theorem A8X{k:Nat}{p:List Bool}{u t:Ty}{b o:Nat}(h1:G.box k=some (b,t))(h2:t.off p=some o)(h3:LG t p u):
 SR P w G (.ptr k p u) (.pointer (some ⟨b,o,none⟩)):=⟨_,rfl,b,t,o,h1,h2,h3,rfl⟩
theorem IA{k:Nat}{p:List Bool}{u:Ty}{v:Value}(h:SR P w G (.ptr k p u) v):
 ∃b t o,G.box k=some (b,t)/\t.off p=some o/\LG t p u/\v=.pointer (some ⟨b,o,none⟩):=by
 obtain⟨c,h1,b,t,o,h2,h3,h4,h5⟩:=h;have h1':c=[v]:=h1;subst h1';injection h5 with h6 _;exact⟨b,t,o,h2,h3,h4,h6⟩
theorem XT{k i:Nat}{p q:List Bool}{u:Ty}{v:Value}(h:SR P w G (.ptri k p i q u) v):
 ∃b t o n e o',G.box k=some (b,t)/\t.off p=some o/\LG t p (.arr n e)/\i<n/\e.off q=some o'/\LG e q u/\v=.pointer (some ⟨b,o+i*e.sz+o',none⟩):=by
 obtain⟨c,h1,b,t,o,n,e,o',h2,h3,h4,h5,h6,h7,h8⟩:=h;have h1':c=[v]:=h1;subst h1';injection h8 with h9 _;exact⟨b,t,o,n,e,o',h2,h3,h4,h5,h6,h7,h9⟩
theorem MM{k g i:Nat}{q:List Bool}{u:Ty}{v:Value}(h:SR P w G (.elem k g i q u) v):
 ∃b o len cap e o',G.val k g=some (.slice (some ⟨b,o,none⟩) len cap)/\G.ety k=some e/\i<len/\e.off q=some o'/\LG e q u/\v=.pointer (some ⟨b,o+i*e.sz+o',none⟩):=by
 obtain⟨c,h1,b,o,len,cap,e,o',h2,h3,h4,h5,h6,h7⟩:=h;have h1':c=[v]:=h1;subst h1';injection h7 with h8 _;exact⟨b,o,len,cap,e,o',h2,h3,h4,h5,h6,h8⟩
theorem OC{t:Ty}{x:t.T}{v:Value}(h:SR P w G (.ref t x) v):∃ad c,v=.pointer (some ad)/\ad.spot=none/\Row w G.im ad.block ad.off t.sz c/\Rel w G.im t x c:=by
 obtain⟨d,h1,ad,c,h2,h3,h4,h5⟩:=h;have h1':d=[v]:=h1;subst h1';injection h2 with h6 _;exact⟨ad,c,h6,h3,h4,h5⟩
theorem Ty.bare_same{u p:Ty}(h:u.bare.same p=true):u.bare=p:=Ty.same_eq h
theorem A8Y{u p:Ty}(h:u.bare=p)(q:List Bool):u.off q=p.off q/\(q≠[]->u.sub q=p.sub q):=by
 subst h;cases q with
 |nil=>exact⟨by cases u<;>first|rfl|(rename_i t;cases t<;>rfl),λh=>absurd rfl h⟩
 |cons i r=>exact⟨Ty.off_bare _ _ _,λ_=>Ty.sub_bare _ _ _⟩
theorem A8Z{u p v:Ty}{q:List Bool}(h:u.bare=p)(hq:p.sub q=some v):∃v',u.sub q=some v'/\(v'=v\/(q=[]/\v'.bare=v)):=by
 subst h;cases q with
 |nil=>
  have:u.bare=v:=by cases hb:u.bare<;>(rw[hb]at hq;exact A3 hq)
  exact⟨u,by cases u<;>rfl,.inr ⟨rfl,this⟩⟩
 |cons i r=>exact⟨v,by rw[Ty.sub_bare];exact hq,.inl rfl⟩
theorem Row.sub{I:Im}{b o n m k:Nat}{c:List Value}(h:Row w I b o n c)(hk:k+m<=n):Row w I b (o+k) m ((c.drop k).take m):=
 ⟨by rw [B4,BP,h.len]; omega,λj hj=>by
  obtain⟨h1,h2⟩:=h.at_ (k+j) o5;refine⟨by rw[C7];exact h1,?_⟩;rw[C7,h2,AK,if_pos hj,AR]⟩
theorem A8_{n f:Nat}(h:G4 n f=[]):n<=1:=by
 cases n with
 |zero=>omega
 |succ n=>cases n with
  |zero=>omega
  |succ n=>cases f<;>simp[G4]at h
theorem iA{t p u v:Ty}{q:List Bool}{o f:Nat}(hok:S_ p=true)(ho:t.off q=some o)(hu:LG t q u)(hb:u.bare=p)(hv:p.sub (G4 p.fields f)=some v)(hf:f<p.fields)
 {of:Nat}(hof:p.off (G4 p.fields f)=some of):
 t.off (q++G4 p.fields f)=some (o+of)/\LG t (q++G4 p.fields f) v:=by
 obtain⟨u',h1,h2⟩:=hu;have hb':u'.bare=p:=h2.trans hb;obtain⟨k1,k2⟩:=A8W (q:=G4 p.fields f) ho h1;obtain⟨m1,_⟩:=A8Y hb' (G4 p.fields f);obtain⟨v',n1,n2⟩:=A8Z hb' hv;refine⟨by rw[k1,m1,hof];rfl,v',by rw[k2];exact n1,?_⟩;rcases n2 with rfl|⟨hnil,hbv⟩
 .rfl
 .have h1:p.fields=1:=by have:=A8_ hnil;omega
  rw[hnil]at hv;have hpv:p=v:=by cases p<;>exact A3 hv
  unfold S_ at hok;rw[show Nat.beq p.fields 1=true by rw[h1];rfl]at hok;have:=Ty.same_eq (show p.bare.same p=true from hok);rw[hbv,<-hpv,this]
theorem A8a{u t:Ty}{x x':u.T}:(JZ u t x).isSome=(JZ u t x').isSome:=by
 unfold JZ;cases u<;>simp only[Ty.cast?]<;>split<;>rfl
theorem A8b:∀{l:List Bool} {t:Ty} {x x':t.T},(Ty.at t l x).isSome=(Ty.at t l x').isSome:=by
 intro l;induction l with
 |nil=>intro t x x';cases t<;>rfl
 |cons b l ih=>
  intro t x x';cases t with
  |prod a c=>cases b<;>exact ih
  |agg q=>
   cases q with
   |prod a c=>cases b<;>exact ih
   |_=>rfl
  |_=>rfl
theorem A8c{p e:Ty}{f:Nat}{z z':e.T}:(LE p f (.ref e z)).isSome=(LE p f (.ref e z')).isSome:=by
 unfold LE;cases S_ p with
 |false=>rfl
 |true=>
  simp only[AA];have h1:=A8a (t:=p) (x:=z) (x':=z');cases h2:JZ e p z with
  |none=>
   rw[h2]at h1;cases h3:JZ e p z' with
   |none=>rfl
   |some y=>rw[h3]at h1;cases h1
  |some y=>
   rw[h2]at h1;cases h3:JZ e p z' with
   |none=>rw[h3]at h1;cases h1
   |some y'=>
    have h4:=A8b (l:=G4 p.fields f) (x:=y) (x':=y');simp only;cases h5:Ty.at p (G4 p.fields f) y with
    |none=>
     rw[h5]at h4;cases h6:Ty.at p (G4 p.fields f) y' with
     |none=>rfl
     |some q=>rw[h6]at h4;cases h4
    |some q=>
     rw[h5]at h4;cases h6:Ty.at p (G4 p.fields f) y' with
     |none=>rw[h6]at h4;cases h4
     |some q'=>rfl
theorem tX{p:Ty}{id:Nat}(hl:Lay P (.agg p) id){f:Nat}(hf:f<p.fields){s s':SV}{v:Value}(hr:LE p f s=some s')(h:SR P w G s v):
 ∃z,(Instr.fieldAt id v f).run P w=.ok z w/\SR P w G s' z:=by
 unfold LE at hr;cases hok:S_ p with
 |false=>rw[hok]at hr;cases hr
 |true=>
 rw[hok]at hr;simp only[AA]at hr
 have run:∀{b o:Nat} {F:Field} {fs:Array Field} {u:Ty},P.underlying id=some (.struct fs)->fs[f]?=some F->Lay P u F.type->
  (Instr.fieldAt id (.pointer (some ⟨b,o,none⟩)) f).run P w=.ok (.pointer (some ⟨b,o+F.offset,none⟩)) w:=by
  intro b o F fs u h1 h2 h3;simp only[Instr.fieldAt,Sem.run_bind,run_underlying h1,Result.andThen_ok,h2,Instr.sureAddr,Sem.run_pure,A8V h3,K6]
 split at hr
 .rename_i k q u;split at hr
  .rename_i hb;cases hv:p.sub (G4 p.fields f)with
   |none=>rw[hv]at hr;cases hr
   |some vt=>
    rw[hv]at hr;cases hr;obtain⟨fs,F,o',m1,m2,m3,m4,m5⟩:=XS hl hv hf;obtain⟨b,t,o,h1,h2,h3,rfl⟩:=IA h;obtain⟨k1,k2⟩:=iA hok h2 h3 (Ty.bare_same hb) hv hf m3;exact⟨_,run m1 m2 m5,by rw[m4];exact A8X h1 k1 k2⟩
  .cases hr
 .rename_i k q i r u;split at hr
  .rename_i hb;cases hv:p.sub (G4 p.fields f)with
   |none=>rw[hv]at hr;cases hr
   |some vt=>
    rw[hv]at hr;cases hr;obtain⟨fs,F,o',m1,m2,m3,m4,m5⟩:=XS hl hv hf;obtain⟨b,t,o,n,e,o2,h1,h2,h3,h4,h5,h6,rfl⟩:=XT h;obtain⟨k1,k2⟩:=iA hok h5 h6 (Ty.bare_same hb) hv hf m3;refine⟨_,run m1 m2 m5,_,rfl,b,t,o,n,e,o2+o',h1,h2,h3,h4,k1,k2,?_⟩;rw[m4,C7]
  .cases hr
 .rename_i k g i r u;split at hr
  .rename_i hb;cases hv:p.sub (G4 p.fields f)with
   |none=>rw[hv]at hr;cases hr
   |some vt=>
    rw[hv]at hr;cases hr;obtain⟨fs,F,o',m1,m2,m3,m4,m5⟩:=XS hl hv hf;obtain⟨b,o1,len,cap,e,o2,h1,h2,h3,h4,h5,rfl⟩:=MM h;obtain⟨k1,k2⟩:=iA hok h4 h5 (Ty.bare_same hb) hv hf m3;refine⟨_,run m1 m2 m5,_,rfl,b,o1,len,cap,e,o2+o',h1,h2,h3,k1,k2,?_⟩;rw[m4,C7]
  .cases hr
 .rename_i u x;split at hr
  .rename_i y hy;split at hr
   .rename_i vt z hz;cases hr;obtain⟨ad,c,rfl,h1,h2,h3⟩:=OC h;have h3':Rel w G.im p y c:=QR (p:=p) hy h3;obtain⟨o,k1,k2,k3,k4⟩:=TL h3' hz;obtain⟨fs,F,o',m1,m2,m3,m4,m5⟩:=XS hl k2 hf;rw[k1]at m3;cases m3;obtain⟨bb,oo,sp⟩:=ad;simp only at h1;subst h1;refine⟨_,run m1 m2 m5,_,rfl,_,_,rfl,rfl,?_,k4⟩;rw[m4];have hlen:u.sz=p.sz:=by rw[<-h3.length,h3'.length]
    exact h2.sub (by rw[hlen];omega)
   .cases hr
  .cases hr
 .cases hr
theorem iB(ho:∀k o,σ k=some o->ObjOK P fr w G k o){s:SV}{v:Value}(h:SR P w G s v):SR P w G (NC σ s) v:=by
 unfold NC;split
 .rename_i k p u;split
  .rename_i t c hk;split
   .rename_i x hx;split
    .rename_i y hy;obtain⟨b,t',o,h1,h2,⟨u0,h3,h3'⟩,rfl⟩:=IA h;obtain⟨b',cs,el,k1,k2,k3,k4,k5,k6,_⟩:=ho _ _ hk;rw[h1]at k1;cases k1;obtain⟨o',u1,m1,m2,m3,m4,m5⟩:=TK k4 k5 hx;rw[h2]at m1;cases m1;have hrel:=QS ho hy m5;have hlen:=hrel.length
     have hl1:((cs.toList.drop o).take u1.sz).length=u1.sz:=by
      rw[B4,BP,BR];omega
     have hsz:u.sz=u1.sz:=by rw[<-hlen,hl1]
     refine⟨_,rfl,⟨b,o,none⟩,_,rfl,rfl,⟨hlen,λj hj=>⟨k6.2 rfl _ (by show o+j<_;omega),?_⟩⟩,hrel⟩;simp only[World.cell?,k2,Option.isSome_none,CT,CK];rw[AK,if_pos o5,AR,BE]
    .exact h
   .exact h
  .rename_i e x hk;split
   .obtain⟨b,t',o,h1,h2,_,rfl⟩:=IA h;obtain⟨b',c,k1,k2,k3⟩:=ho _ _ hk;rw[h1]at k1;cases k1;have h2':e.off []=some 0:=by cases e<;>rfl
    rw[h2']at h2;cases h2;exact⟨_,rfl,⟨b,0,none⟩,c,rfl,rfl,k2,k3⟩
   .exact h
  .exact h
 .exact h
theorem A8d{t:Ty}{id:Nat}(hl:Lay P t id)(ho:∀k o,σ k=some o->ObjOK P fr w G k o){i:Int}{k:IntKind}{s:SV}{v:Value}{r:OpRes}{u:Upd}
 (hr:g8 σ t i s=some r)(hu:Gives r u)(h:SR P w G s v):
 u.wr=[]/\∃z,(Instr.indexAt id v (.int k i)).run P w=.ok z w/\SR P w G u.sv z:=by
 have runS:∀{e:Ty} {el:Nat},P.underlying id=some (.slice el)->Lay P e el->∀{ad:Addr} {len cap:Nat},0<=i->i.toNat<len->
  (Instr.indexAt id (.slice (some ad) len cap) (.int k i)).run P w=.ok (.pointer (some (ad.add (i.toNat*e.sz)))) w:=by
  intro e el hun hle ad len cap h0 hlt;obtain⟨inf,hinf,hc⟩:=hle.cells;simp only[Instr.indexAt,Sem.run_bind,asIntOf,Sem.run_pure,Result.andThen_ok,run_underlying hun];rw[if_pos ⟨h0,o5⟩];simp only[Sem.run_bind,run_sizeOf w hinf,hc,Result.andThen_ok,Sem.run_pure]
 have refRun:∀{e:Ty} {xs:List e.T} {el:Nat},P.underlying id=some (.slice el)->Lay P e el->VRel w G.im (.slice e) xs v->∀{u:Upd},Gives (T0 e xs i) u->
  u.wr=[]/\∃z,(Instr.indexAt id v (.int k i)).run P w=.ok z w/\SR P w G u.sv z:=by
  intro e xs el hun hle hv u hu;obtain⟨y,hy,rfl⟩:=hu.may_inv;obtain⟨h1,h2,h3⟩:=at?_some hy;obtain⟨a,cap,rfl,k1,k2,k3⟩:=hU hv;cases a with
  |none=>rw[(k2 rfl).1]at h2;simp at h2
  |some ad=>
   obtain⟨q1,q2⟩:=k3 ad rfl;obtain⟨c,hc,hrel⟩:=q2 _ _ h3;obtain⟨bb,oo,sp⟩:=ad;simp only at q1;have q1:=q1 (by have:=k1.1;omega);subst q1;refine⟨rfl,_,runS hun hle h1 h2,_,rfl,_,c,rfl,?_,?_,hrel⟩
   .rw[K6]
   .rw[K6];exact hc
 unfold g8 at hr;split at hr
 .rename_i e;obtain⟨el,hun,hle,_⟩:=hl.slice;split at hr
  .rename_i k' g;split at hr
   .rename_i el' e' xs g' wr hk;cases hg:(Nat.beq g g'&&e'.same e)with
    |false=>rw[hg]at hr;cases hr
    |true=>
     rw[hg]at hr;simp only[AA]at hr;simp only[A4]at hg;have hgg:=A2 hg.1;have hee:=Ty.same_eq hg.2;subst hgg hee;obtain⟨hety,v',h1,h2⟩:=ho _ _ hk;rw[ML h]at h1;cases h1;cases wr with
     |false=>
      cases hr;exact refRun hun hle ⟨_,rfl,gZ h2⟩ hu
     |true=>
      cases hr;obtain⟨y,hy,rfl⟩:=hu.may_inv;obtain⟨q1,q2⟩:=in?_some hy;rcases h2 with⟨rfl,rfl⟩|⟨b,cap,cs,rfl,_⟩
      .simp at q2
      .refine⟨rfl,_,runS hun hle q1 q2,_,rfl,b,0,xs.length,cap,e',0,ML h,hety,q2,by cases e'<;>first|rfl|(rename_i t;cases t<;>rfl),⟨e',by cases e'<;>first|rfl|(rename_i t;cases t<;>rfl),rfl⟩,?_⟩;rw[K6];simp
   .rename_i id' r' t' xs gk hh wr hk;cases hg:(Nat.beq g 0&&(E4 r' t').same e)with
    |false=>rw[hg]at hr;cases hr
    |true=>
     rw[hg]at hr;simp only[AA]at hr;simp only[A4]at hg;have hgg:=A2 hg.1;have hee:=Ty.same_eq hg.2;subst hgg hee;have hob:=ho _ _ hk;cases wr with
     |false=>
      cases hr;obtain⟨v',h1,h2⟩:=hob;rw[ML h]at h1;cases h1;exact refRun (e:=E4 r' t') hun hle ⟨_,rfl,h2⟩ hu
     |true=>
      cases hr;obtain⟨y,hy,rfl⟩:=hu.may_inv;obtain⟨q1,q2⟩:=in?_some hy;obtain⟨h0,hety,v',us,bs,h1,_,_,_,⟨v2,h2,_,h3⟩,_⟩:=hob;have hv:v'=v2:=(A5.1 h2);subst hv;have h1':=h1;rw[ML h]at h1';cases h1';rcases h3 with⟨h3,_⟩|⟨_,rfl,h4,_⟩|⟨_,b,o,cap,cells,bss,rfl,h4,_⟩
      .exact absurd h3 h0
      .rw[show(show List (E4 r' t').T from xs)=[]from h4]at q2;simp at q2
      .refine⟨rfl,_,runS hun hle q1 q2,_,rfl,b,o,_,cap,E4 r' t',0,h1,hety,q2,by cases (E4 r' t')<;>first|rfl|(rename_i t;cases t<;>rfl),⟨E4 r' t',by cases (E4 r' t')<;>first|rfl|(rename_i t;cases t<;>rfl),rfl⟩,?_⟩;rw[K6];simp
   .cases hr
  .split at hr
   .rename_i xs hxs;cases hr;exact refRun hun hle (JL hxs h) hu
   .cases hr
 .rename_i n e;obtain⟨el,hun,hle,_,hn1⟩:=hl.arr;obtain⟨inf,hinf,hc⟩:=hle.cells
  have runA:∀{ad:Addr},0<=i->i.toNat<n->(Instr.indexAt id (.pointer (some ad)) (.int k i)).run P w=.ok (.pointer (some (ad.add (i.toNat*e.sz)))) w:=by
   intro ad h0 hlt;simp only[Instr.indexAt,Sem.run_bind,asIntOf,Sem.run_pure,Result.andThen_ok,run_underlying hun,Instr.sureAddr];rw[if_pos ⟨h0,o5⟩];simp only[Sem.run_bind,run_sizeOf w hinf,hc,Result.andThen_ok,Sem.run_pure]
  replace h:=iB ho h
  generalize NC σ s=s at hr h;split at hr
  .rename_i k' p u';cases hg:u'.same (.arr n e)with
   |false=>rw[hg]at hr;cases hr
   |true=>
    rw[hg]at hr;cases hr;have:=Ty.same_eq hg;subst this;obtain⟨y,hy,rfl⟩:=hu.may_inv;obtain⟨q1,q2⟩:=in?_some hy;obtain⟨b,t,o,h1,h2,h3,rfl⟩:=IA h;refine⟨rfl,_,runA q1 q2,_,rfl,b,t,o,n,e,0,h1,h2,h3,q2,by cases e<;>first|rfl|(rename_i t;cases t<;>rfl),⟨e,by cases e<;>first|rfl|(rename_i t;cases t<;>rfl),rfl⟩,?_⟩;rw[K6];simp
  .rename_i u' x;split at hr
   .rename_i xs hxs;cases hr;obtain⟨y,hy,rfl⟩:=hu.may_inv;obtain⟨h1,h2,h3⟩:=at?_some hy;obtain⟨ad,c,rfl,k1,k2,k3⟩:=OC h;have hsz:u'.sz=(Ty.arr n e).sz:=by obtain⟨ee,_⟩:=Ty.cast?_some hxs;rw[ee]
    have k3':=Rel.cast hxs k3;obtain⟨m1,m2,m3⟩:=k3';obtain⟨bb,oo,sp⟩:=ad;simp only at k1;subst k1;have hin:i.toNat<n:=by rw[<-m1];exact h2
    have hmul:(i.toNat+1)*e.sz<=n*e.sz:=B1 _ hin;rw[C8]at hmul;refine⟨rfl,_,runA h1 hin,_,rfl,_,_,rfl,?_,?_,m3 _ _ h3⟩
    .rw[K6]
    .rw[K6];exact k2.sub (by rw[hsz];show i.toNat*e.sz+e.sz<=n*e.sz;omega)
   .cases hr
  .cases hr
 .cases hr
theorem A8e{n:Nat}{e:Ty}{id:Nat}(hl:Lay P (.arr n e) id)(hn':n<=281474976710656){xs:List e.T}{bb oo:Nat}{c:List Value}(k2:Row w G.im bb oo (n*e.sz) c)(k3:Rel w G.im (.arr n e) xs c)
 {lo hi:Option SV}{vlo vhi:Option Value}{r:OpRes}{u:Upd}
 (hr:QG e xs lo hi=some r)(hu:Gives r u)(hlo:JN P w G lo vlo)(hhi:JN P w G hi vhi):
 u.wr=[]/\∃z,(Instr.sliceAt id (.pointer (some ⟨bb,oo,none⟩)) vlo vhi none).run P w=.ok z w/\SR P w G u.sv z:=by
 obtain⟨el,hun,hle,_,hn1⟩:=hl.arr;obtain⟨inf,hinf,hc⟩:=hle.cells;obtain⟨m1,m2,m3⟩:=k3;have m1:xs.length=n:=m1;have m3:∀(i:Nat) (x:e.T),xs[i]?=some x->Rel w G.im e x ((c.drop (i*e.sz)).take e.sz):=m3;unfold QG at hr;split at hr
 .rename_i l h' hbl hbh;cases hr;obtain⟨y,hy,rfl⟩:=hu.may_inv;obtain⟨h1,h2,h3,h4⟩:=cut?_some hy;have hbh':=M0 hbh hhi;rw[m1]at hbh' h3;have hsb:=TO (P:=P) (w:=w) (isS:=false) (len:=n) (cap:=n) (M0 hbl hlo) hbh' h1 h2 o5;have hylen:y.length=h'.toNat-l.toNat:=by rw[h4];simp only[BP,B4];omega
  refine⟨rfl,.slice (some (if n=l.toNat then⟨bb,oo,none⟩else(Addr.mk bb oo none).add (l.toNat*e.sz))) (h'.toNat-l.toNat) (n-l.toNat),?_,?_⟩
  .simp only[Instr.sliceAt,Sem.run_bind,run_underlying hun,Result.andThen_ok,Instr.sureAddr,Sem.run_pure,hsb,run_sizeOf w hinf,hc]
  .rw[<-hylen];refine tW ⟨by rw[hylen];omega,by rw[hylen];omega⟩ (λhh=>by cases hh) ?_;intro ad had;cases had;by_cases hcap:n=l.toNat
   .rw[if_pos hcap];refine⟨λ_=>rfl,λi x hx=>?_⟩;have:y.length=0:=o5
    rw[CD.1 this]at hx;simp at hx
   .rw[if_neg hcap,K6];refine⟨λ_=>rfl,λi x hx=>?_⟩
    have hx':xs[l.toNat+i]?=some x:=by
     rw[h4,AR,AK]at hx;split at hx
     .exact hx
     .cases hx
    have hin:l.toNat+i<n:=by rw[<-m1];exact(A8.1 hx').1
    have hmul:(l.toNat+i+1)*e.sz<=n*e.sz:=B1 _ hin;rw[C8]at hmul;refine⟨_,?_,m3 _ _ hx'⟩;have:oo+l.toNat*e.sz+i*e.sz=oo+(l.toNat+i)*e.sz:=by rw[CF,C7]
    show Row w G.im bb (oo+l.toNat*e.sz+i*e.sz) e.sz _;rw[this];exact k2.sub o5
 .cases hr
theorem A8f{t:Ty}{id:Nat}(hl:Lay P t id)(ho:∀k o,σ k=some o->ObjOK P fr w G k o){s:SV}{v:Value}{lo hi:Option SV}{vlo vhi:Option Value}{r:OpRes}{u:Upd}
 (hr:WY σ t s lo hi=some r)(hu:Gives r u)(h:SR P w G s v)(hlo:JN P w G lo vlo)(hhi:JN P w G hi vhi):
 u.wr=[]/\∃z,(Instr.sliceAt id v vlo vhi none).run P w=.ok z w/\SR P w G u.sv z:=by
 unfold WY at hr;split at hr
 .rename_i n e
  replace h:=iB ho h
  generalize NC σ s=s at hr h;split at hr
  .rename_i u' x;split at hr
   .rename_i xs hxs;cases hn:Nat.ble n 281474976710656 with
    |false=>rw[hn]at hr;cases hr
    |true=>
     rw[hn]at hr;simp only[AA]at hr;obtain⟨ad,c,rfl,k1,k2,k3⟩:=OC h;have hsz:u'.sz=(Ty.arr n e).sz:=by obtain⟨ee,_⟩:=Ty.cast?_some hxs;rw[ee]
     have k3':=Rel.cast hxs k3;obtain⟨bb,oo,sp⟩:=ad;simp only at k1;subst k1;rw[hsz]at k2;exact A8e hl (BX hn) k2 k3' hr hu hlo hhi
   .cases hr
  .cases hr
 .exact A8U hl ho hr hu h hlo hhi
end
def Ty.dep:Ty->Nat
 | .agg t=>t.dep+1
 | .prod a b=>a.dep+b.dep
 |_=>0
def eqTB(P:Program):Ty->(Nat->Bool)×(List Field->Bool)
 | .prod a b=>(λ_=>false,λl=>match l with
  |f::r=>f.name != "_" && ((eqTB P a).1 f.type&&(eqTB P b).2 r)
  |[]=>false)
 | .unit=>(λ_=>false,λl=>match l with|[]=>true|_=>false)
 | .bool=>one λ_=>true
 | .int _=>one λ_=>true
 | .str=>one λ_=>true
 | .agg p=>one λid=>!(P.stoodInHeld id)&&(match P.underlying id with|some (.struct fs)=>(eqTB P p).2 fs.toList|_=>false)
 |_=>(λ_=>false,λ_=>false)
 where
 one (c:Nat->Bool):(Nat->Bool)×(List Field->Bool):=(c,λl=>match l with|[f]=>f.name != "_" && c f.type|_=>false)
section
variable{P:Program}{w:World}{I:Im}
theorem XU{s:String}(h:(s != "_")=true):s≠"_" :=by simpa using h
theorem tY:∀{t:Ty},(∀(id d:Nat) (x y:t.T) (v v':Value) (b:Bool),Lay P t id->(eqTB P t).1 id=true->VRel w I t x v->VRel w I t y v'->Ty.beq t x y=some b->t.dep<d->
 (Op.equalIn d id v v').run P w=.ok b w)/\
 (∀ (l:List Field) (off d:Nat) (x y:t.T) (cs cs':Array Value) (b:Bool),(layB P t).2 l off=true->(eqTB P t).2 l=true->Rel w I t x ((cs.toList.drop off).take t.sz)->Rel w I t y ((cs'.toList.drop off).take t.sz) ->
  off+t.sz<=cs.size->off+t.sz<=cs'.size->Ty.beq t x y=some b->t.dep<d->(Op.eqFields d cs cs' l).run P w=.ok b w):=by
 intro t
 have leaf:∀{t:Ty} {c:Nat->Bool} {k:TypeDesc->Bool},(layB P t).2=(layB.one P t k).2->(eqTB P t).2=(eqTB.one c).2->(∀id,(layB.one P t k).1 id=true->Lay P t id)->(∀id,c id=true->(eqTB P t).1 id=true)->
  (∀ (id d:Nat) (x y:t.T) (v v':Value) (b:Bool),Lay P t id->(eqTB P t).1 id=true->VRel w I t x v->VRel w I t y v'->Ty.beq t x y=some b->t.dep<d ->
  (Op.equalIn d id v v').run P w=.ok b w)->
  ∀(l:List Field) (off d:Nat) (x y:t.T) (cs cs':Array Value) (b:Bool),(layB P t).2 l off=true->(eqTB P t).2 l=true->Rel w I t x ((cs.toList.drop off).take t.sz)->Rel w I t y ((cs'.toList.drop off).take t.sz)->
  off+t.sz<=cs.size->off+t.sz<=cs'.size->Ty.beq t x y=some b->t.dep<d->(Op.eqFields d cs cs' l).run P w=.ok b w:=by
  intro t c k e1 e2 hl hc hT l off d x y cs cs' b h1 h2 hx hy s1 s2 hb hd;rw[e1]at h1;rw[e2]at h2;simp only[layB.one]at h1;split at h1
  .rename_i g;simp only[A4]at h1;have hg:=A2 h1.1;subst hg;simp only[eqTB.one,A4]at h2;have hlay:Lay P t g.type:=hl _ (by simp only[layB.one,A4];exact h1.2);obtain⟨v,r1,r2⟩:=OB hlay hx s1;obtain⟨v',q1,q2⟩:=OB hlay hy s2;simp only[Op.eqFields];rw[if_pos (XU h2.1)];simp only[Sem.run_bind,r1,Result.andThen_ok,q1,hT g.type d x y v v' b hlay (hc _ h2.2) r2 q2 hb hd];cases b<;>simp
  .cases h1
 induction t with
 |bool=>
  have hT:∀(id d:Nat) (x y:Bool) (v v':Value) (b:Bool),Lay P .bool id->(eqTB P .bool).1 id=true->VRel w I .bool x v->VRel w I .bool y v'->Ty.beq .bool x y=some b->Ty.dep .bool<d->
   (Op.equalIn d id v v').run P w=.ok b w:=by
   intro id d x y v v' b hl _ hv hv' hb hd;obtain⟨c,h1,h2⟩:=hv;obtain⟨c',h3,h4⟩:=hv';have e1:v=.bool x:=A5.1 ((show c=[v]from h1).symm.trans h2);have e2:v'=.bool y:=A5.1 ((show c'=[v']from h3).symm.trans h4);subst e1 e2;cases d with
   |zero=>cases hd
   |succ d=>
    cases hb;simp[Op.equalIn,run_underlying hl.bool,J7]
  exact⟨hT,leaf (t:=.bool) (c:=λ_=>true) rfl rfl (λ_ h=>h) (λ_ h=>h) hT⟩
 |int k=>
  have hT:∀(id d:Nat) (x y:Int) (v v':Value) (b:Bool),Lay P (.int k) id->(eqTB P (.int k)).1 id=true->VRel w I (.int k) x v->VRel w I (.int k) y v'->Ty.beq (.int k) x y=some b->Ty.dep (.int k)<d->
   (Op.equalIn d id v v').run P w=.ok b w:=by
   intro id d x y v v' b hl _ hv hv' hb hd;obtain⟨c,h1,h2,_⟩:=hv;obtain⟨c',h3,h4,_⟩:=hv';have e1:v=.int k x:=A5.1 ((show c=[v]from h1).symm.trans h2);have e2:v'=.int k y:=A5.1 ((show c'=[v']from h3).symm.trans h4);subst e1 e2;cases d with
   |zero=>cases hd
   |succ d=>
    cases hb;simp[Op.equalIn,run_underlying hl.int,E1]
  exact⟨hT,leaf (t:=.int k) (c:=λ_=>true) rfl rfl (λ_ h=>h) (λ_ h=>h) hT⟩
 |str=>
  have hT:∀(id d:Nat) (x y:DW) (v v':Value) (b:Bool),Lay P .str id->(eqTB P .str).1 id=true->VRel w I .str x v->VRel w I .str y v'->Ty.beq .str x y=some b->Ty.dep .str<d->
   (Op.equalIn d id v v').run P w=.ok b w:=by
   intro id d x y v v' b hl _ hv hv' hb hd;obtain⟨c,h1,h2,_⟩:=hv;obtain⟨c',h3,h4,_⟩:=hv';have e1:v=.string ⟨x.toArray⟩:=A5.1 ((show c=[v]from h1).symm.trans h2);have e2:v'=.string ⟨y.toArray⟩:=A5.1 ((show c'=[v']from h3).symm.trans h4);subst e1 e2;cases d with
   |zero=>cases hd
   |succ d=>
    cases hb;rw[run_equalIn_string w d id _ _ hl.str,tV,tV];rfl
  exact⟨hT,leaf (t:=.str) (c:=λ_=>true) rfl rfl (λ_ h=>h) (λ_ h=>h) hT⟩
 |agg p ih=>
  have hT:∀(id d:Nat) (x y:p.T) (v v':Value) (b:Bool),Lay P (.agg p) id->(eqTB P (.agg p)).1 id=true->VRel w I (.agg p) x v->VRel w I (.agg p) y v'->Ty.beq (.agg p) x y=some b->Ty.dep (.agg p)<d->
   (Op.equalIn d id v v').run P w=.ok b w:=by
   intro id d x y v v' b hl he hv hv' hb hd;obtain⟨c,h1,h2⟩:=hv;obtain⟨c',h3,h4⟩:=hv';have e1:v=.agg c.toArray:=h1;have e2:v'=.agg c'.toArray:=h3;subst e1 e2;obtain⟨fs,hu,hb2,_⟩:=hl.agg;simp only[eqTB,eqTB.one,hu,A4,BI]at he;have hfs:P.fieldsOf id=fs:=by simp[Program.fieldsOf,hu]
   cases d with
   |zero=>cases hd
   |succ d=>
    rw[run_equalIn_struct w d id _ _ (by rw[hfs];exact hu) he.1,hfs];have h2':Rel w I p x c:=h2;have h4':Rel w I p y c':=h4;refine ih.2 fs.toList 0 d x y _ _ b hb2 he.2 ?_ ?_ ?_ ?_ hb (by simp only[Ty.dep]at hd;omega)
    .simpa[h2'.length]using (show Rel w I p x (c.take p.sz)from by rw[<-h2'.length,B3];exact h2')
    .simpa[h4'.length]using (show Rel w I p y (c'.take p.sz)from by rw[<-h4'.length,B3];exact h4')
    .simp[h2'.length]
    .simp[h4'.length]
  exact⟨hT,leaf (t:=.agg p) (c:=λid=>!(P.stoodInHeld id)&&(match P.underlying id with|some (.struct fs)=>(eqTB P p).2 fs.toList|_=>false)) rfl rfl (λ_ h=>h) (λ_ h=>h) hT⟩
 |prod a b iha ihb=>
  refine⟨λid d x y v v' r h=>by simp[Lay,layB]at h,λl off d x y cs cs' r h1 h2 hx hy s1 s2 hb hd=>?_⟩;simp only[layB]at h1;split at h1
  .rename_i f l;simp only[A4]at h1;simp only[eqTB,A4]at h2;have hg:=A2 h1.1;subst hg;have hsz:(Ty.prod a b).sz=a.sz+b.sz:=rfl;rw[hsz]at hx hy s1 s2;obtain⟨c1,c2,e1,r1,r2⟩:=hx;obtain⟨c1',c2',e1',r1',r2'⟩:=hy
   have k1:c1=(cs.toList.drop f.offset).take a.sz:=by
    have:((cs.toList.drop f.offset).take (a.sz+b.sz)).take a.sz=(c1++c2).take a.sz:=by rw[e1]
    rw[DQ,DO o5,<-r1.length,List.take_left,r1.length]at this;exact this.symm
   have k2:c2=(cs.toList.drop (f.offset+a.sz)).take b.sz:=by
    have:((cs.toList.drop f.offset).take (a.sz+b.sz)).drop a.sz=(c1++c2).drop a.sz:=by rw[e1]
    rw[DI,CM,<-r1.length,List.drop_left,r1.length]at this;rw[<-this];congr 1;omega
   have k1':c1'=(cs'.toList.drop f.offset).take a.sz:=by
    have:((cs'.toList.drop f.offset).take (a.sz+b.sz)).take a.sz=(c1'++c2').take a.sz:=by rw[e1']
    rw[DQ,DO o5,<-r1'.length,List.take_left,r1'.length]at this;exact this.symm
   have k2':c2'=(cs'.toList.drop (f.offset+a.sz)).take b.sz:=by
    have:((cs'.toList.drop f.offset).take (a.sz+b.sz)).drop a.sz=(c1'++c2').drop a.sz:=by rw[e1']
    rw[DI,CM,<-r1'.length,List.drop_left,r1'.length]at this;rw[<-this];congr 1;omega
   obtain⟨v,p1,p2⟩:=OB h1.2.1 (k1▸r1) o5;obtain⟨v',q1,q2⟩:=OB h1.2.1 (k1'▸r1') o5;simp only[Ty.beq]at hb;split at hb
   .rename_i u z hu hz;have hb:=A3 hb;subst hb;simp only[Ty.dep]at hd;simp only[Op.eqFields];rw[if_pos (XU h2.1)];simp only[Sem.run_bind,p1,Result.andThen_ok,q1,iha.1 f.type d x.1 y.1 v v' u h1.2.1 h2.2.1 p2 q2 hu o5];have hrest:=ihb.2 l (f.offset+a.sz) d x.2 y.2 cs cs' z h1.2.2.1 h2.2.2 (k2▸r2) (k2'▸r2') o5 o5 hz o5;cases u
    .simp
    .simpa using hrest
   .cases hb
  .cases h1
 |unit=>
  refine⟨λid d x y v v' r h=>by simp[Lay,layB]at h,λl off d x y cs cs' r h1 h2 hx hy s1 s2 hb hd=>?_⟩;simp only[layB]at h1;split at h1
  .cases hb;simp[Op.eqFields]
  .cases h1
 |_=>exact⟨λid d x y v v' r _ h=>(oe),λl off d x y cs cs' r _ h=>(oe)⟩
theorem A8g:∀{t:Ty},(∀(id n:Nat) (e:Bool) (x:t.T) (v:Value),Lay P t id->(eqTB P t).1 id=true->VRel w I t x v->t.dep<n->(Instr.checkKey e n id v).run P w=.ok () w)/\
 (∀ (l:List Field) (off:Nat) (x:t.T) (cs:Array Value),(layB P t).2 l off=true->(eqTB P t).2 l=true->Rel w I t x ((cs.toList.drop off).take t.sz)->off+t.sz<=cs.size ->
  ∀f∈l,f.name≠"_" /\∃v,(part f.type cs f.offset).run P w=.ok v w/\∀(e:Bool) (n:Nat),t.dep<n->(Instr.checkKey e n f.type v).run P w=.ok () w):=by
 intro t
 have leaf:∀{t:Ty} {c:Nat->Bool} {k:TypeDesc->Bool},(layB P t).2=(layB.one P t k).2->(eqTB P t).2=(eqTB.one c).2->(∀id,(layB.one P t k).1 id=true->Lay P t id)->(∀id,c id=true->(eqTB P t).1 id=true)->
  (∀(id n:Nat) (e:Bool) (x:t.T) (v:Value),Lay P t id->(eqTB P t).1 id=true->VRel w I t x v->t.dep<n->(Instr.checkKey e n id v).run P w=.ok () w)->
  (∀ (l:List Field) (off:Nat) (x:t.T) (cs:Array Value),(layB P t).2 l off=true->(eqTB P t).2 l=true->Rel w I t x ((cs.toList.drop off).take t.sz)->off+t.sz<=cs.size ->
  ∀f∈l,f.name≠"_" /\∃v,(part f.type cs f.offset).run P w=.ok v w/\∀(e:Bool) (n:Nat),t.dep<n->(Instr.checkKey e n f.type v).run P w=.ok () w):=by
  intro t c k e1 e2 hl hc hT l off x cs h1 h2 hx s1 f hf;rw[e1]at h1;rw[e2]at h2;simp only[layB.one]at h1;split at h1
  .rename_i g;simp only[A4]at h1;have hg:=A2 h1.1;subst hg;simp only[eqTB.one,A4]at h2;have hlay:Lay P t g.type:=hl _ (by simp only[layB.one,A4];exact h1.2);obtain⟨v,r1,r2⟩:=OB hlay hx s1;have:f=g:=by simpa using hf
   subst this;exact⟨XU h2.1,v,r1,λe n hn=>hT f.type n e x v hlay (hc _ h2.2) r2 hn⟩
  .cases h1
 induction t with
 |bool=>
  have hT:∀(id n:Nat) (e:Bool) (x:Bool) (v:Value),Lay P .bool id->(eqTB P .bool).1 id=true->VRel w I .bool x v->Ty.dep .bool<n->(Instr.checkKey e n id v).run P w=.ok () w:=by
   intro id n e x v hl _ hv hn;obtain⟨c,h1,h2⟩:=hv;have e1:v=.bool x:=A5.1 ((show c=[v]from h1).symm.trans h2);subst e1;cases n with
   |zero=>cases hn
   |succ n=>simp[Instr.checkKey,run_underlying hl.bool]
  exact⟨hT,leaf (t:=.bool) (c:=λ_=>true) rfl rfl (λ_ h=>h) (λ_ h=>h) hT⟩
 |int k=>
  have hT:∀(id n:Nat) (e:Bool) (x:Int) (v:Value),Lay P (.int k) id->(eqTB P (.int k)).1 id=true->VRel w I (.int k) x v->Ty.dep (.int k)<n->(Instr.checkKey e n id v).run P w=.ok () w:=by
   intro id n e x v hl _ hv hn;obtain⟨c,h1,h2,_⟩:=hv;have e1:v=.int k x:=A5.1 ((show c=[v]from h1).symm.trans h2);subst e1;cases n with
   |zero=>cases hn
   |succ n=>simp[Instr.checkKey,run_underlying hl.int]
  exact⟨hT,leaf (t:=.int k) (c:=λ_=>true) rfl rfl (λ_ h=>h) (λ_ h=>h) hT⟩
 |str=>
  have hT:∀(id n:Nat) (e:Bool) (x:DW) (v:Value),Lay P .str id->(eqTB P .str).1 id=true->VRel w I .str x v->Ty.dep .str<n->(Instr.checkKey e n id v).run P w=.ok () w:=by
   intro id n e x v hl _ hv hn;obtain⟨c,h1,h2,_⟩:=hv;have e1:v=.string ⟨x.toArray⟩:=A5.1 ((show c=[v]from h1).symm.trans h2);subst e1;cases n with
   |zero=>cases hn
   |succ n=>simp[Instr.checkKey,run_underlying hl.str]
  exact⟨hT,leaf (t:=.str) (c:=λ_=>true) rfl rfl (λ_ h=>h) (λ_ h=>h) hT⟩
 |agg p ih=>
  have hT:∀(id n:Nat) (e:Bool) (x:p.T) (v:Value),Lay P (.agg p) id->(eqTB P (.agg p)).1 id=true->VRel w I (.agg p) x v->Ty.dep (.agg p)<n->(Instr.checkKey e n id v).run P w=.ok () w:=by
   intro id n e x v hl he hv hn;obtain⟨c,h1,h2⟩:=hv;have e1:v=.agg c.toArray:=h1;subst e1;obtain⟨fs,hu,hb2,_⟩:=hl.agg;simp only[eqTB,eqTB.one,hu,A4,BI]at he;cases n with
   |zero=>cases hn
   |succ n=>
    have h2':Rel w I p x c:=h2;have hn':p.dep<n:=by simp only[Ty.dep]at hn;omega
    have hall:=ih.2 fs.toList 0 x c.toArray hb2 he.2 (by simpa[h2'.length]using (show Rel w I p x (c.take p.sz)from by rw[<-h2'.length,B3];exact h2')) (by simp[h2'.length]);rw[Instr.checkKey];simp only[Sem.run_bind,run_underlying hu,Result.andThen_ok];rw[<-Array.forIn_toList];generalize fs.toList=L at hall;induction L with
    |nil=>simp
    |cons f L ihl=>
     obtain⟨hne,v,p1,p2⟩:=hall f oc;have p3:=p2 e n hn';simp only[List.forIn_cons,Sem.run_bind,hne,ne_eq,not_false_eq_true,if_true,Result.andThen_ok,p1,p3,Sem.run_pure];exact ihl λy hy=>hall y (by simp[hy])
  exact⟨hT,leaf (t:=.agg p) (c:=λid=>!(P.stoodInHeld id)&&(match P.underlying id with|some (.struct fs)=>(eqTB P p).2 fs.toList|_=>false)) rfl rfl (λ_ h=>h) (λ_ h=>h) hT⟩
 |prod a b iha ihb=>
  refine⟨λid n e x v h=>by simp[Lay,layB]at h,λl off x cs h1 h2 hx s1 f0 hf0=>?_⟩;simp only[layB]at h1;split at h1
  .rename_i f l;simp only[A4]at h1;simp only[eqTB,A4]at h2;have hg:=A2 h1.1;subst hg;have hsz:(Ty.prod a b).sz=a.sz+b.sz:=rfl;rw[hsz]at hx s1;obtain⟨c1,c2,e1,r1,r2⟩:=hx
   have k1:c1=(cs.toList.drop f.offset).take a.sz:=by
    have:((cs.toList.drop f.offset).take (a.sz+b.sz)).take a.sz=(c1++c2).take a.sz:=by rw[e1]
    rw[DQ,DO o5,<-r1.length,List.take_left,r1.length]at this;exact this.symm
   have k2:c2=(cs.toList.drop (f.offset+a.sz)).take b.sz:=by
    have:((cs.toList.drop f.offset).take (a.sz+b.sz)).drop a.sz=(c1++c2).drop a.sz:=by rw[e1]
    rw[DI,CM,<-r1.length,List.drop_left,r1.length]at this;rw[<-this];congr 1;omega
   obtain⟨v,p1,p2⟩:=OB h1.2.1 (k1▸r1) o5;rcases A_.1 hf0 with rfl|hf0
   .exact⟨XU h2.1,v,p1,λe n hn=>iha.1 f0.type n e x.1 v h1.2.1 h2.2.1 p2 (by simp only[Ty.dep]at hn;omega)⟩
   .obtain⟨q1,v',q2,q3⟩:=ihb.2 l (f.offset+a.sz) x.2 cs h1.2.2.1 h2.2.2 (k2▸r2) o5 f0 hf0;exact⟨q1,v',q2,λe n hn=>q3 e n (by simp only[Ty.dep]at hn;omega)⟩
  .cases h1
 |unit=>
  refine⟨λid n e x v h=>by simp[Lay,layB]at h,λl off x cs h1 h2 hx s1 f0 hf0=>?_⟩;simp only[layB]at h1;split at h1
  .cases hf0
  .cases h1
 |_=>exact⟨λid n e x v _ h=>(oe),λl off x cs _ h=>(oe)⟩
def LI(P:Program)(t:Ty)(id:Nat):Bool:=(eqTB P t).1 id&&(!(P.eqGuardType P.depth id)&&Nat.blt t.dep 10000)
theorem A8h{t:Ty}{id:Nat}(hl:Lay P t id)(ha:∃p,t=.agg p)(hk:LI P t id=true){x y:t.T}{v v':Value}{b:Bool}(hx:VRel w I t x v)(hy:VRel w I t y v')(hb:Ty.beq t x y=some b){op:BinOp}{ox oy:Operand}:
 (op=.eql->((do eqGuard op id ox oy v v';binOp op id v v':Sem Value)).run P w=.ok (.bool b) w)/\
 (op=.neq->((do eqGuard op id ox oy v v';binOp op id v v':Sem Value)).run P w=.ok (.bool (!b)) w):=by
 obtain⟨p,rfl⟩:=ha;simp only[LI,A4,BI,BW]at hk;have he:=tY.1 id 10000 x y v v' b hl hk.1 hx hy hb hk.2.2;obtain⟨c,h1,_⟩:=hx;obtain⟨c',h3,_⟩:=hy;have e1:v=.agg c.toArray:=h1;have e2:v'=.agg c'.toArray:=h3;subst e1 e2;refine⟨λh=>?_,λh=>?_⟩
 .subst h;rw[Sem.run_bind,run_eqGuard_agg w _ _ _ _ _ _ hk.2.1];simp only[Result.andThen_ok];rw[run_eql_struct,he];rfl
 .subst h;rw[Sem.run_bind,run_eqGuard_agg w _ _ _ _ _ _ hk.2.1];simp only[Result.andThen_ok];rw[run_neq_struct,he];rfl
end
end Go.Ev
