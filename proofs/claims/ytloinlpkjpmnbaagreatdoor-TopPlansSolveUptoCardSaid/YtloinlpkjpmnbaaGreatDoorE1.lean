/-
  The evaluator on plain data, and what its operations do in the model, first part: it tells for each operation what the model's run of it gives.
-/
import Derived.KernelRfl
import GoSem.Core.Sem
import GoSem.Core.View
import GoSem.Core.World
import GoSem.Op.String
import GoSem.Core.Utf8
import GoSem.Core.Region
import Derived.MapKept
import Derived.Calls
import Derived.Laws.World
import Derived.Laws.Sem
import Derived.Laws.Entries
import Derived.Laws.Strings
import Derived.Laws.Concat
import Derived.Laws.Strings3
import Derived.ChangeKeysEq
import Derived.Laws.StructEq
set_option linter.unusedVariables false
set_option linter.unusedSimpArgs false
set_option linter.unusedSectionVars false
set_option maxRecDepth 100000
namespace Go
theorem oa{p:Prop}(h:p:=by omega):p:=h
theorem oc{p:Prop}(h:p:=by grind):p:=h
theorem od{p:Prop}(h:p:=by dsimp only;omega):p:=h
theorem oe{p:Prop}(h:p:=by simp):p:=h
theorem oh{p:Prop}(h:p:=by kernel_rfl):p:=h
theorem oi{p:Prop}(h:p:=by decide):p:=h
theorem ol{p:Prop}(h:p:=by cases h):p:=h
theorem om{p:Prop}(h:p:=by simp;omega):p:=h
theorem oq{p:Prop}(h:p:=by intro h;cases h):p:=h
end Go
namespace Go.Ev
variable{α:Type}{w w' w'':World}{k b o n f id g:Nat}{gv:Nat->Prop}{cs c1 c2 ds:List Value}{el:TypeId}{h:Option (List Nat)}{dr:Bool}{R:Value->World->Prop}{op:BinOp}{v':Value}{i:Int}{vlo vhi:Option Value}{q:List Bool}
abbrev A0:=@Option.bind_some
abbrev A1:=@List.getElem?_eq_getElem
abbrev A2:=@Option.some.inj
abbrev A3:=@Nat.eq_of_beq_eq_true
abbrev A4:=@decide_eq_true
abbrev A5:=@of_decide_eq_true
abbrev A6:=@Bool.and_eq_true
abbrev A7:=@decide_eq_false
abbrev A8:=@cond_true
abbrev A9:=@List.getElem?_eq_some_iff
abbrev AA:=@cond_false
abbrev AB:=@List.singleton_inj
abbrev AC:=@Nat.lt_irrefl
abbrev AD:=@List.getD_eq_getElem?_getD
abbrev AE:=@List.length_append
abbrev AF:=@of_decide_eq_false
abbrev AG:=@List.take_length
abbrev AH:=@Nat.le_refl
abbrev AI:=@List.mem_of_getElem?
abbrev AJ:=@List.mem_singleton
abbrev AK:=@Int.toNat_natCast
abbrev AL:=@List.mem_cons_self
abbrev AM:=@List.eq_nil_of_length_eq_zero
abbrev AN:=@List.length_map
abbrev AO:=@Option.some.injEq
abbrev AP:=@List.mem_cons_of_mem
abbrev AQ:=@List.length_set
abbrev AR:=@Int.le_refl
abbrev AS:=@List.mem_append
abbrev AT:=@Nat.le_trans
abbrev AU:=@List.getElem_mem
abbrev AV:=@List.getElem?_map
abbrev AW:=@decide_eq_true_eq
abbrev AX:=@List.length_cons
abbrev AY:=@List.length_take
abbrev AZ:=@Nat.mul_le_mul_right
abbrev A_:=@Option.bind_eq_some_iff
abbrev B0:=@Bool.or_eq_false_iff
abbrev B1:=@List.mem_map
abbrev B2:=@List.mem_cons
abbrev B3:=@List.nodup_nil
abbrev B4:=@List.getElem?_take
abbrev B5:=@List.getElem?_drop
abbrev B6:=@Int.natCast_nonneg
abbrev B7:=@Array.getElem?_eq_getElem
abbrev B8:=@List.length_filter_le
abbrev B9:=@List.nodup_cons
abbrev BA:=@Bool.and_eq_true_iff
abbrev BC:=@Nat.lt_of_lt_of_le
abbrev BD:=@List.nodup_append
abbrev BE:=@List.pairwise_iff_getElem
abbrev BF:=@Array.length_toList
abbrev BG:=@List.getElem?_append_right
abbrev BH:=@Option.map_some
abbrev BI:=@List.ext_getElem?
abbrev BJ:=@Nat.zero_le
abbrev BK:=@Bool.or_eq_true
abbrev BL:=@List.map_append
abbrev BM:=@List.mem_filter
abbrev BN:=@List.length_replicate
abbrev BO:=@Array.getElem?_eq_some_iff
abbrev BP:=@Bool.not_eq_true'
abbrev BQ:=@List.size_toArray
abbrev BR:=@List.length_nil
abbrev BS:=@Bool.not_true
abbrev BT:=@Array.getElem?_toList
abbrev BU:=@List.length_drop
abbrev BV:=@List.all_eq_true
abbrev BW:=@Bool.not_false
abbrev BX:=@Bool.not_eq_true
abbrev BY:=@List.getElem?_eq_none
abbrev BZ:=@List.mem_append_right
abbrev B_:=@Nat.blt_eq
abbrev C0:=@Classical.byContradiction
abbrev C1:=@List.getElem?_append_left
abbrev C2:=@List.mem_take_iff_getElem
abbrev C4:=@Nat.zero_add
abbrev C5:=@List.drop_eq_getElem_cons
abbrev C6:=@List.getElem?_of_mem
abbrev C7:=@List.pairwise_append
abbrev C8:=@Array.getD_eq_getD_getElem?
abbrev C9:=@Nat.le_of_ble_eq_true
abbrev CA:=@Array.ext'
abbrev CC:=@Nat.mul_le_mul_left
abbrev CD:=@Bool.false_or
abbrev CE:=@List.take_zero
abbrev CF:=@List.append_assoc
abbrev CG:=@List.append_nil
abbrev CH:=@List.mem_append_left
abbrev CI:=@List.take_of_length_le
abbrev CJ:=@List.getElem?_set_self
abbrev CK:=@Nat.succ_mul
abbrev CL:=@if_false
abbrev CM:=@List.getElem?_set_ne
abbrev CN:=@List.mem_range
abbrev CP:=@List.getElem_of_mem
abbrev CQ:=@List.mem_of_find?_eq_some
abbrev CS:=@Nat.ble_eq_true_of_le
abbrev CT:=@Nat.add_zero
abbrev CU:=@Nat.lt_or_ge
abbrev CV:=@Nat.add_mul
abbrev CW:=@Nat.mul_one
abbrev CX:=@List.length_eq_zero_iff
abbrev CY:=@List.getElem?_range
abbrev CZ:=@ByteArray.size_extract
abbrev C_:=@Nat.add_assoc
abbrev D0:=@Bool.true_and
abbrev D1:=@Bool.false_eq_true
abbrev D2:=@List.filter_append
abbrev D3:=@List.eq_nil_iff_forall_not_mem
abbrev D4:=@List.pairwise_singleton
abbrev D5:=@Bool.false_and
abbrev D6:=@List.drop_of_length_le
abbrev D7:=@List.length_range
abbrev D8:=@List.mem_of_mem_take
abbrev D9:=@Nat.pow_le_pow_right
abbrev DA:=@List.drop_zero
abbrev DC:=@Nat.beq_refl
abbrev DD:=@Option.getD_some
abbrev DE:=@Nat.le_of_not_lt
abbrev DF:=@Prod.mk.injEq
abbrev DG:=@List.map_cons
abbrev DH:=@Nat.min_eq_left
abbrev DI:=@Bool.and_eq_false_iff
abbrev DJ:=@List.drop_take
abbrev DK:=@List.drop_drop
abbrev DL:=@Nat.mul_comm
abbrev DM:=@false_and
abbrev DN:=@Int.fdiv_eq_ediv_of_nonneg
abbrev DO:=@List.nil_append
abbrev DP:=@List.filterMap_cons_some
abbrev DQ:=@Array.getElem?_push_size
abbrev DR:=@Nat.eq_zero_or_pos
abbrev DT:=@beq_iff_eq
abbrev DU:=@decide_eq_false_iff_not
abbrev DW:=@List.getElem?_replicate
theorem ADD:∀(m:Ask α) (w:World),w.drawn<=(w.ask m).2.drawn:=by
 intro m;induction m with
 |done a=>intro w;exact AH _
 |ask q r k i=>
  intro w;simp only[World.ask];split
  .exact i _ _
  .exact AT (Nat.le_succ _) (i _ {w with drawn:=w.drawn+1})
theorem ADE(w:World)(c:Sys):w.drawn<=(w.sys c).2.drawn:=by
 unfold World.sys;have h:=ADD (Kernel.perform c w.os) w;split
 .exact AH _
 .rename_i r os w' _ a;rw[a]at h;exact h
theorem ADF{p:Program}{at_:Addr}{u:TypeId}{k:Addr}{v:Value}{b:Bool}{l:List Addr}(h:w.viewStore p at_ u k v b=.ok (w',l)):w'.drawn=w.drawn:=by
 unfold World.viewStore at h;simp only[bind,Except.bind,pure,Except.pure,throw,throwThe,MonadExceptOf.throw]at h
 repeat' split at h
 all_goals first|(cases h;done)|(cases h;rfl)|skip
theorem ADG{p:Program}{a:Addr}{v:Value}{b:Bool}{l:List Addr}(h:w.farStore p a v b=.ok (w',l)):w'.drawn=w.drawn:=by
 unfold World.farStore at h;split at h
 .split at h
  .rename_i r d;cases h;exact ADF d
  .cases h
 .cases h
theorem ADH(w:World)(a:Addr)(n:Nat):(w.freeze a n).drawn=w.drawn:=by
 unfold World.freeze
 repeat' split
 all_goals rfl
theorem nM{P:Program}:∀(m:Sem α) (w w':World) (x:α),m.run P w=.ok x w'->w.drawn<=w'.drawn:=by
 intro m;induction m with
 |pure a=>intro w w' x h;simp only[Sem.run]at h;cases h;exact AH _
 |load m a k i=>
  intro w w' x h;simp only[Sem.run]at h;split at h
  .exact i _ _ _ _ h
  .split at h
   .exact i _ _ _ _ h
   .cases h
 |store m a v k i=>
  intro w w' x h;cases v;all_goals simp only[Sem.run]at h
  all_goals first
   |(cases h;done)
   | (split at h
      .split at h
       .cases h
       .exact i (w.setCell _ _) _ _ h
      .split at h
       .rename_i e l b;have:=i _ _ _ h;rw[ADG b]at this;exact this
       .cases h)
 |new o k i=>intro w w' x h;simp only[Sem.run]at h;exact i _ {w with heap:=w.heap.push o} _ _ h
 |shape r k i=>intro w w' x h;simp only[Sem.run]at h;exact i _ _ _ _ h
 |freeze a n k i=>intro w w' x h;simp only[Sem.run]at h;exact AT (Nat.le_of_eq (ADH w a n).symm) (i (w.freeze a n) _ _ h)
 |frozen a k i=>intro w w' x h;simp only[Sem.run]at h;exact i _ _ _ _ h
 |getObj r k i=>
  intro w w' x h;simp only[Sem.run]at h;split at h
  .cases h
  .exact i _ _ _ _ h
  .cases h
 |setObj r o k i=>
  intro w w' x h;simp only[Sem.run]at h;split at h
  .cases h
  .exact i {w with heap:=w.heap.setIfInBounds r o} _ _ h
  .cases h
 |choose q k i=>
  intro w w' x h;simp only[Sem.run]at h;split at h
  .exact i _ _ _ _ h
  .exact AT (Nat.le_succ _) (i _ {w with drawn:=w.drawn+1} _ _ h)
 |sys c k i=>intro w w' x h;simp only[Sem.run]at h;exact AT (ADE w c) (i _ _ _ _ h)
 |program k i=>intro w w' x h;simp only[Sem.run]at h;exact i _ _ _ _ h
 |mark m k i=>intro w w' x h;simp only[Sem.run]at h;exact i _ _ _ h
 |halt d=>intro w w' x h;simp only[Sem.run]at h;cases h
inductive Ty where
 |unit
 |bool
 |int (k:IntKind)
 |str
 |slice (e:Ty)
 |agg (t:Ty)
 |prod (a b:Ty)
 |arr (n:Nat) (e:Ty)
 |ptr (e:Ty)
 |map (k v:Ty)
 |inil
 |ialt (id:Nat) (t r:Ty)
 |self
 |opq
 |fnc (d c:Ty)
 deriving Inhabited
variable{p t e:Ty}
abbrev DX:=List UInt8
def Ty.T:Ty->Type
 | .unit=>Unit
 | .bool=>Bool
 | .int _=>Int
 | .str=>List UInt8
 | .slice e=>List e.T
 | .agg t=>t.T
 | .prod a b=>a.T×b.T
 | .arr _ e=>List e.T
 | .ptr e=>Option e.T
 | .map k v=>List (k.T×v.T)
 | .inil=>Unit
 | .ialt _ t r=>Sum t.T r.T
 | .self=>Unit
 | .opq=>Unit
 | .fnc d c=>Option (d.T->Option c.T)
def Ty.dflt:(t:Ty)->t.T
 | .unit=>()
 | .bool=>false
 | .int _=>(0:Int)
 | .str=>([]:List UInt8)
 | .slice e=>([]:List e.T)
 | .agg t=>t.dflt
 | .prod a b=>(a.dflt,b.dflt)
 | .arr n e=>List.replicate n e.dflt
 | .ptr e=>(none:Option e.T)
 | .map k v=>([]:List (k.T×v.T))
 | .inil=>()
 | .ialt _ _ r=>Sum.inr r.dflt
 | .self=>()
 | .opq=>()
 | .fnc d c=>(none:Option (d.T->Option c.T))
def NV:IntKind->IntKind->Bool
 | .i8,.i8=>true| .i16,.i16=>true| .i32,.i32=>true| .i64,.i64=>true
 | .u8,.u8=>true| .u16,.u16=>true| .u32,.u32=>true| .u64,.u64=>true
 |_,_=>false
theorem TH{a b:IntKind}(h:NV a b=true):a=b:=by
 cases a<;>cases b<;>first|rfl|cases h
def Ty.same:Ty->Ty->Bool
 | .unit,.unit=>true
 | .bool,.bool=>true
 | .int k,.int l=>NV k l
 | .str,.str=>true
 | .slice a,.slice b=>a.same b
 | .agg a,.agg b=>a.same b
 | .prod a b,.prod c d=>a.same c&&b.same d
 | .arr n a,.arr m b=>Nat.beq n m&&a.same b
 | .ptr a,.ptr b=>a.same b
 | .map a b,.map c d=>a.same c&&b.same d
 | .inil,.inil=>true
 | .self,.self=>true
 | .opq,.opq=>true
 | .fnc a b,.fnc c d=>a.same c&&b.same d
 | .ialt i a b,.ialt j c d=>Nat.beq i j&&(a.same c&&b.same d)
 |_,_=>false
theorem Ty.same_eq:∀{a b:Ty},a.same b=true->a=b:=by
 intro a;induction a with
 |unit=>grind[Ty.same]
 |bool=>grind[Ty.same]
 |int k=>intro b h;cases b<;>first|(simp only[Ty.same]at h;rw[TH h])|(simp[Ty.same]at h)
 |str=>grind[Ty.same]
 |slice e l=>intro b h;cases b<;>first|(simp only[Ty.same]at h;rw[l h])|(simp[Ty.same]at h)
 |agg e l=>intro b h;cases b<;>first|(simp only[Ty.same]at h;rw[l h])|(simp[Ty.same]at h)
 |prod x y d j=>
  intro b h;cases b<;>first|(simp only[Ty.same,A6]at h;rw[d h.1,j h.2])|(simp[Ty.same]at h)
 |arr n e l=>
  intro b h;cases b<;>first|(simp only[Ty.same,A6]at h;rw[A3 h.1,l h.2])|(simp[Ty.same]at h)
 |ptr e l=>intro b h;cases b<;>first|(simp only[Ty.same]at h;rw[l h])|(simp[Ty.same]at h)
 |map x y d j=>
  intro b h;cases b<;>first|(simp only[Ty.same,A6]at h;rw[d h.1,j h.2])|(simp[Ty.same]at h)
 |inil=>grind[Ty.same]
 |self=>grind[Ty.same]
 |opq=>grind[Ty.same]
 |fnc x y d j=>
  intro b h;cases b<;>first|(simp only[Ty.same,A6]at h;rw[d h.1,j h.2])|(simp[Ty.same]at h)
 |ialt i x y d j=>
  intro b h;cases b<;>first|(simp only[Ty.same,A6]at h;rw[A3 h.1,d h.2.1,j h.2.2])|(simp[Ty.same]at h)
def Ty.cast? (t u:Ty)(x:t.T):Option u.T:=
 if h:t.same u=true then some (Ty.same_eq h▸x)else none
theorem Ty.cast?_some{u:Ty}{x:t.T}{y:u.T}(h:Ty.cast? t u x=some y):∃e:t=u,e▸x=y:=by
 grind[Ty.cast?,Ty.same_eq,Option.some.inj]
def Ty.sz:Ty->Nat
 | .unit=>0
 | .agg t=>t.sz
 | .prod a b=>a.sz+b.sz
 | .arr n e=>n*e.sz
 |_=>1
inductive SV where
 |undef
 |val (t:Ty) (x:t.T)
 |nilS
 |nilI
 |nilP
 |nilM
 |nilF
 |pr (a b:SV)
 |obj (k g:Nat)
 |ptr (k:Nat) (p:List Bool) (u:Ty)
 |ptri (k:Nat) (p:List Bool) (i:Nat) (q:List Bool) (u:Ty)
 |elem (k g:Nat) (i:Nat) (q:List Bool) (u:Ty)
 |ref (t:Ty) (x:t.T)
 |fn (f:Nat) (caps:SV)
 |hof (nd:Bool) (dom cod:Ty) (F:dom.T->Option cod.T)
 |nns (e:Ty) (x:List e.T)
 |mns (e:Ty) (x:Option (List e.T))
 |em (e:Ty)
 |snil
 |scons (a b:SV)
 |tup (l:SV)
 |grd (toks:List (Nat×Bool)) (g:Bool) (s:SV)
 |slf (k:Nat)
 |bt (t:Ty) (c:SV)
 |rf0 (t:Ty) (x:t.T)
 |lnS (n:Nat)
 deriving Inhabited
variable{s:SV}{lo hi:Option SV}
def SV.list:SV->List SV
 | .scons a b=>a::b.list
 |_=>[]
def SV.ofList:List SV->SV
 |[]=>.snil
 |a::r=>.scons a (SV.ofList r)
def E7:List Nat->Ty->Ty
 |[],t=>t
 |_::r,t=>.slice (E7 r t)
inductive Obj where
 |box (t:Ty) (c:SV) (w:Bool)
 |sl (id:Nat) (t:Ty) (xs:List t.T) (g:Nat) (w:Bool)
 |mp (k v:Ty) (es:List (k.T×v.T)) (w:Bool)
 |mg (id:Nat) (k t:Ty) (es:List (k.T×List t.T)) (tk:Option k.T) (gk:Nat)
 |dp (ids:List Nat) (t:Ty) (x:(E7 ids t).T) (gk:Nat) (hole:Option (List Nat)) (w:Bool)
 |kn (f:Nat) (c:SV)
 |kv (t:Ty) (x:t.T)
 deriving Inhabited
abbrev SSo:=Nat->Option Obj
variable{σ:SSo}
structure St where
 slots:Nat->SV
 sto:SSo
 n:Nat
inductive Ex where
 |normal
 |exit (id:Nat)
 |ret
def cC(k:IntKind)(n:Int):Bool:=decide (k.min<=n)&&decide (n<=k.max)
def cD:Value->SV
 | .bool b=>.val .bool b
 | .int k n=>bif cC k n then .val (.int k) n else .undef
 | .string s=>bif Nat.ble s.data.toList.length 281474976710656 then .val .str s.data.toList else .undef
 | .slice none 0 0=>.nilS
 | .nilIface=>.nilI
 | .pointer none=>.nilP
 | .map none=>.nilM
 | .nilFunc=>.nilF
 |_=>.undef
def GR(sl:Nat->SV):Operand->SV
 | .tmp t=>sl t
 | .const v=>cD v
 | .func f=>.fn f .snil
 | .global _=>.undef
def Ty.isIface:Ty->Bool
 | .inil=>true
 | .ialt _ _ r=>r.isIface
 |_=>false
def SV.as(t:Ty):SV->Option t.T
 | .val u x=>Ty.cast? u t x
 | .nilS=>match t with| .slice e=>some ([]:List e.T)|_=>none
 | .nilP=>match t with| .ptr e=>some (none:Option e.T)|_=>none
 | .nilI=>if t.isIface=true then some t.dflt else none
 | .nilM=>match t with| .map k v=>some ([]:List (k.T×v.T))|_=>none
 | .nns u x=>Ty.cast? (.slice u) t x
 | .mns u x=>Ty.cast? (.slice u) t (x.getD [])
 | .ref u x=>match t with| .ptr e=>(Ty.cast? u e x).map some|_=>none
 |_=>none
def PQ(σ:SSo)(k g:Nat)(t:Ty):Option t.T:=
 match σ k with
 |some (.sl _ e xs g' w)=>if Nat.beq g g' && !w then Ty.cast? (.slice e) t xs else none
 |some (.mp a b es w)=>if Nat.beq g 0 && !w then Ty.cast? (.map a b) t es else none
 |some (.dp (i::r) e x _ _ w)=>if Nat.beq g 0 && !w then Ty.cast? (E7 (i::r) e) t x else none
 |_=>none
def SV.asV(σ:SSo)(t:Ty):SV->Option t.T
 | .obj k g=>PQ σ k g t
 |s=>s.as t
def MW(u p:Ty)(x:u.T):Option p.T:=match u,x with
 | .agg q,x=>Ty.cast? q p x
 |u,x=>Ty.cast? u p x
def SV.asL(σ:SSo)(t:Ty):SV->Option t.T
 | .val u x=>MW u t x
 |s=>s.asV σ t
def LZ(u t:Ty)(x:u.T):Option t.T:=match t with
 | .agg p=>Ty.cast? u (.agg p) x
 |t=>MW u t x
def SV.asC(σ:SSo):(t:Ty)->SV->Option t.T
 | .prod a b=>λs=>match s with
  | .pr x y=>match SV.asC σ a x,SV.asC σ b y with
   |some u,some v=>some (u,v)
   |_,_=>none
  | .val u x=>MW u (.prod a b) x
  |s=>s.as (.prod a b)
 | .agg p=>λs=>match s with
  | .val u x=>MW u p x
  |s=>SV.asC σ p s
 | .unit=>SV.asL σ .unit
 | .bool=>SV.asL σ .bool
 | .int k=>SV.asL σ (.int k)
 | .str=>SV.asL σ .str
 | .slice e=>SV.asL σ (.slice e)
 | .arr n e=>SV.asL σ (.arr n e)
 | .ptr e=>SV.asL σ (.ptr e)
 | .map k v=>SV.asL σ (.map k v)
 | .inil=>SV.asL σ .inil
 | .ialt i t r=>SV.asL σ (.ialt i t r)
 | .self=>SV.asL σ .self
 | .opq=>SV.asL σ .opq
 | .fnc d c=>SV.asL σ (.fnc d c)
def SV.halves:SV->Option (SV×SV)
 | .pr a b=>some (a,b)
 | .val (.prod a b) x=>some (.val a x.1,.val b x.2)
 | .val (.agg (.prod a b)) x=>some (.val a (Prod.fst x),.val b (Prod.snd x))
 |_=>none
def SV.getAt:SV->List Bool->Option SV
 |s,[]=>some s
 |s,b::r=>match s.halves with
  |some (x,y)=>(bif b then y else x).getAt r
  |none=>none
def SV.setAt:SV->List Bool->SV->Option SV
 |_,[],v=>some v
 |s,b::r,v=>match s.halves with
  |some (x,y)=>bif b then(y.setAt r v).map (.pr x ·)else(x.setAt r v).map (.pr · y)
  |none=>none
def Ty.at:(t:Ty)->List Bool->t.T->Option ((u:Ty)×u.T)
 |t,[],x=>some ⟨t,x⟩
 | .prod a b,i::r,x=>bif i then Ty.at b r x.2 else Ty.at a r x.1
 | .agg (.prod a b),i::r,x=>bif i then Ty.at b r (Prod.snd x)else Ty.at a r (Prod.fst x)
 |_,_::_,_=>none
def Ty.put:(t:Ty)->List Bool->t.T->(u:Ty)->u.T->Option t.T
 |t,[],_,u,y=>Ty.cast? u t y
 | .prod a b,i::r,x,u,y=>bif i then(Ty.put b r x.2 u y).map (λz=>(x.1,z))else(Ty.put a r x.1 u y).map (λz=>(z,x.2))
 | .agg (.prod a b),i::r,x,u,y=>
  bif i then(Ty.put b r (Prod.snd x) u y).map (λz=>((Prod.fst x:a.T),z))else(Ty.put a r (Prod.fst x) u y).map (λz=>(z,(Prod.snd x:b.T)))
 |_,_::_,_,_,_=>none
def GJ:(n f:Nat)->List Bool
 |0,_=>[]
 |1,_=>[]
 |_+2,0=>[false]
 |n+2,f+1=>true::GJ (n+1) f
def Ty.off:Ty->List Bool->Option Nat
 |_,[]=>some 0
 | .prod a b,i::r=>bif i then(b.off r).map (a.sz + ·)else a.off r
 | .agg p,i::r=>Ty.off p (i::r)
 |_,_::_=>none
def Ty.sub:Ty->List Bool->Option Ty
 |t,[]=>some t
 | .prod a b,i::r=>bif i then b.sub r else a.sub r
 | .agg p,i::r=>Ty.sub p (i::r)
 |_,_::_=>none
def Ty.bare:Ty->Ty
 | .agg t=>t
 |t=>t
def Ty.fields:Ty->Nat
 | .prod _ b=>b.fields+1
 | .unit=>0
 |_=>1
inductive Sh where
 |val (t:Ty)
 |own (id:Nat) (t:Ty) (w:Bool)
 |io (id:Nat) (t:Ty)
 |omap (k v:Ty)
 |box (c:Sh)
 |pr (a b:Sh)
 |hof (nd:Bool) (d c:Ty)
 |fn (f:Nat)
 |nilS
 |nns (e:Ty)
 |mns (e:Ty)
 |any
 |bld (el:Nat) (c:Bool)
 |tr (s:Sh)
 |og (id:Nat) (k t:Ty)
 |dp (ids:List Nat) (t:Ty)
 |fz (t:Ty)
 |kz (t:Ty)
 deriving Inhabited
def GS:Ty:=.prod .self (.slice (.int .u8))
def Sh.T:Sh->Type
 | .val t=>t.T
 | .own _ t _=>List t.T
 | .io _ t=>List t.T
 | .omap k v=>List (k.T×v.T)
 | .box c=>c.T
 | .pr a b=>a.T×b.T
 | .hof _ d c=>d.T->Option c.T
 | .fn _=>Unit
 | .nilS=>Unit
 | .nns e=>List e.T
 | .mns e=>Option (List e.T)
 | .any=>Unit
 | .bld _ _=>List Int
 | .tr s=>s.T
 | .og _ k t=>List (k.T×List t.T)
 | .dp ids t=>(E7 ids t).T
 | .fz t=>t.T
 | .kz t=>t.T
def Sh.ty:Sh->Ty
 | .val t=>t
 | .own _ t _=>.slice t
 | .io _ t=>.slice t
 | .omap k v=>.map k v
 | .box c=>.ptr c.ty
 | .pr a b=>.prod a.ty b.ty
 | .hof _ _ _=>.bool
 | .fn _=>.bool
 | .nilS=>.slice .bool
 | .nns e=>.slice e
 | .mns e=>.slice e
 | .any=>.bool
 | .bld _ _=>.ptr GS
 | .tr s=>.agg s.ty
 | .og _ k t=>.map k (.slice t)
 | .dp ids t=>E7 ids t
 | .fz t=>t
 | .kz t=>.ptr t
def TupR:List Sh->Type
 |[]=>Unit
 |[a]=>a.T
 |a::b::r=>a.T×TupR (b::r)
def F3:Sh->Bool
 | .box _=>true
 | .io _ _=>true
 | .bld _ c=>!c
 |_=>false
def Sh.dflt:(s:Sh)->s.T
 | .val t=>t.dflt
 | .own _ t _=>([]:List t.T)
 | .io _ t=>([]:List t.T)
 | .omap k v=>([]:List (k.T×v.T))
 | .box c=>c.dflt
 | .pr a b=>(a.dflt,b.dflt)
 | .hof _ _ _=>λ_=>none
 | .fn _=>()
 | .nilS=>()
 | .nns e=>([]:List e.T)
 | .mns e=>(none:Option (List e.T))
 | .any=>()
 | .bld _ _=>([]:List Int)
 | .tr s=>s.dflt
 | .og _ k t=>([]:List (k.T×List t.T))
 | .dp ids t=>(E7 ids t).dflt
 | .fz t=>t.dflt
 | .kz t=>t.dflt
def TupR.dflt:(l:List Sh)->TupR l
 |[]=>()
 |[a]=>a.dflt
 |a::b::r=>(a.dflt,TupR.dflt (b::r))
def cE:List Sh->Bool
 |[]=>true
 | .val _::r=>cE r
 |_=>false
structure FSpec where
 ps:List Sh
 rs:List Sh
 F:TupR ps->Option (TupR (rs++ps.filter F3))
 dr:Bool
structure Kp where
 tm:List Nat
 sh:List Sh
def G_:List (Ex×Kp)->Type
 |[]=>Empty
 |[o]=>TupR o.2.sh
 |o::p::r=>Sum (TupR o.2.sh) (G_ (p::r))
structure NdS(inn:Kp)(outs:List (Ex×Kp)) where
 ok:Ty
 ov:Ty
 S:TupR inn.sh->List (ok.T×ov.T)->Prop
 F:TupR inn.sh->List (ok.T×ov.T)->Option (G_ outs)
structure Kn where
 p:Nat
 bx:Bool
 f:Nat
 caps:List Nat
structure KX where
 m:Nat
 kn:List Kn
structure KSpec where
 sp:FSpec
 n:Nat
 kx:KX
structure CSpec where
 inn:Kp
 outs:List (Ex×Kp)
 wrs:List Nat
 F:TupR inn.sh->Option (G_ outs)
 al:List (Nat×Nat):=[]
 nd:Option (NdS inn outs):=none
 kx:Option KX:=none
open Classical in
noncomputable def nN{α Ω:Type}(S:α->Prop)(g:α->Option Ω):Option Ω:=
 if h:∃ω,∀o,S o->g o=some ω then some (Classical.choose h)else none
theorem ADI{Ω:Type}{S:α->Prop}{g:α->Option Ω}{a:Ω}(h:nN S g=some a):∀o,S o->g o=some a:=by
 unfold nN at h;split at h<;>grind
structure Env where
 ty:Nat->Option Ty
 fs:Nat->Option FSpec
 cut:Nat->Option CSpec
 wr:Nat->Bool
 el:Nat->Nat
 mt:String->Nat->Option Nat
 eq:Nat->Bool
 dr:Bool
 dp:Nat->Nat:=λ_=>0
 ky:Nat->Nat:=λ_=>0
 ks:Nat->Option KSpec:=λ_=>none
def NW:Ty->Bool
 | .prod _ _=>true
 |_=>false
def TI:(rs:List Sh)->(c:Ty)->TupR rs->Option c.T
 |[.val t],c,y=>bif NW c then none else Ty.cast? t c y
 | .val t::b::r,.prod p q,y=>match Ty.cast? t p y.1,TI (b::r) q y.2 with
  |some u,some v=>some (u,v)
  |_,_=>none
 |_,_,_=>none
def nO:(c:Ty)->c.T->SV
 | .prod a b,y=>.scons (.val a y.1) (nO b y.2)
 |t,y=>.scons (.val t y) .snil
def cF:(c:Ty)->c.T->SV
 | .prod a b,y=>.tup (nO (.prod a b) y)
 |t,y=>.val t y
def A1A(d' c' d c:Ty)(F:d'.T->Option c'.T):Option (d.T->Option c.T):=
 if h:d'.same d=true then(if h':c'.same c=true then some (Ty.same_eq h▸Ty.same_eq h'▸F)else none)else none
def PR(σ:SSo)(s:SV):SV:=match s with
 | .ptr k p u=>match σ k with
  |some (.box _ c false)=>match c.getAt p with
   |some x=>match x.asC σ u with
    |some y=>.ref u y
    |none=>.ptr k p u
   |none=>.ptr k p u
  | some (.kv e x)=>(match p with
   |[]=>.ref e x
   |_=>.ptr k p u)
  |_=>.ptr k p u
 |s=>s
def MX:SV->Bool
 | .snil=>true
 | .scons _ b=>MX b
 |_=>false
def nP(e u:Ty)(x:u.T):Option e.T:=match Ty.cast? u e x with
 |some y=>some y
 |none=>Ty.cast? (.agg u) e x
def cG(u:Ty)(x:u.T):(t:Ty)->Option t.T
 | .ptr e=>(nP e u x).map some
 |_=>none
def A1B(σ:SSo)(t:Ty):SV->Option t.T
 | .ref u x=>cG u x t
 | .rf0 u x=>cG u x t
 |s=>s.asV σ t
def WN(σ:SSo)(t:Ty)(s:SV):Option t.T:=A1B σ t (PR σ s)
def cH:(a:Sh)->(r:List Sh)->a.T->TupR r->TupR (a::r)
 |_,[],x,_=>x
 |_,_::_,x,y=>(x,y)
def WO(σ:SSo):(l:List Sh)->List SV->Option (TupR l)
 |[],[]=>some ()
 | .val t::r,s::w=>match WN σ t s,WO σ r w with
  |some x,some y=>some (cH (.val t) r x y)
  |_,_=>none
 |_,_=>none
def WP(σ:SSo)(cs:List SV):Nat->(ps:List Sh)->(d:Ty)->d.T->Option (TupR ps)
 |0,.val t::r,d,x=>bif NW d then none else match Ty.cast? d t x,WO σ r cs with
  |some u,some v=>some (cH (.val t) r u v)
  |_,_=>none
 |n+1,.val t::r,.prod p q,x=>match Ty.cast? p t x.1,WP σ cs n r q x.2 with
  |some u,some v=>some (cH (.val t) r u v)
  |_,_=>none
 |_,_,_,_=>none
def cI:Ty->Nat
 | .prod _ q=>cI q+1
 |_=>0
def A1C(σ:SSo)(n:Nat)(ps:List Sh)(cs:List SV):Bool:=(WO σ (ps.drop (n+1)) cs).isSome
def OS(nd:Bool)(fs:Nat->Option FSpec)(σ:SSo)(d c:Ty):SV->Option (d.T->Option c.T)
 | .hof nd' d' c' F=>bif !nd||nd' then A1A d' c' d c F else none
 | .fn f caps=>match fs f with
  |some sp=>bif MX caps&&cE sp.ps&&(!nd||sp.dr)&&A1C σ (cI d) sp.ps caps.list then some (λx=>(WP σ caps.list (cI d) sp.ps d x).bind λv=>(sp.F v).bind λr=>TI _ c r)else none
  |_=>none
 |_=>none
def L_(σ:SSo)(id:Nat)(t:Ty)(w:Bool):SV->Option (List t.T)
 | .obj k g=>match σ k with
  |some (.sl id' t' xs g' w')=>if Nat.beq g 0&&Nat.beq g g'&&(Nat.beq id id'&&(bif w then w' else !w'))then Ty.cast? (.slice t') (.slice t) xs else none
  |_=>none
 | .nilS=>some ([]:List t.T)
 |_=>none
def WQ(σ:SSo)(k v:Ty):SV->Option (List (k.T×v.T))
 | .obj j g=>match σ j with
  |some (.mp k' v' es w)=>if Nat.beq g 0&&w then Ty.cast? (.map k' v') (.map k v) es else none
  |_=>none
 |_=>none
def WR(σ:SSo)(id:Nat)(k t:Ty):SV->Option (List (k.T×List t.T))
 | .obj j g=>match σ j with
  |some (.mg id' k' t' es none _)=>bif Nat.beq g 0&&Nat.beq id id' then Ty.cast? (.map k' (.slice t')) (.map k (.slice t)) es else none
  |_=>none
 |_=>none
def OT:List Nat->List Nat->Bool
 |[],[]=>true
 |a::r,b::s=>Nat.beq a b&&OT r s
 |_,_=>false
def LD(σ:SSo)(ids:List Nat)(t:Ty):SV->Option (E7 ids t).T
 | .obj k g=>match σ k with
  |some (.dp ids' t' x _ none true)=>bif Nat.beq g 0&&OT ids' ids then Ty.cast? (E7 ids' t') (E7 ids t) x else none
  |some (.sl id' t' xs g' true)=>bif Nat.beq g 0&&(Nat.beq g' 0&&OT [id'] ids)then Ty.cast? (.slice t') (E7 ids t) xs else none
  |_=>none
 | .nilS=>match ids with
  |[]=>none
  |_::r=>some ([]:List (E7 r t).T)
 |_=>none
def WS(f:Nat):SV->Option Unit
 | .fn g .snil=>if Nat.beq f g then some ()else none
 |_=>none
def cJ(e:Ty):SV->Option (List e.T)
 | .nns u x=>Ty.cast? (.slice u) (.slice e) x
 |_=>none
def cK(u e:Ty)(x:Option (List u.T)):Option (Option (List e.T)):=if h:u.same e=true then some (Ty.same_eq h▸x)else none
def cL(e:Ty):SV->Option (Option (List e.T))
 | .nilS=>some none
 | .nns u x=>cK u e (some x)
 | .mns u x=>cK u e x
 |_=>none
def WU:SV->Option Unit
 | .nilS=>some ()
 |_=>none
def OU(σ:SSo):(s:Sh)->SV->Option s.T
 | .val t,v=>v.asC σ t
 | .own id t w,v=>L_ σ id t w v
 | .io id t,v=>L_ σ id t true v
 | .omap a b,v=>WQ σ a b v
 | .pr a b,v=>match v.halves with
  |some (x,y)=>match OU σ a x,OU σ b y with
   |some u,some w=>some (u,w)
   |_,_=>none
  |none=>none
 | .fn f,v=>WS f v
 | .nilS,v=>WU v
 | .nns e,v=>cJ e v
 | .mns e,v=>cL e v
 | .box _,_=>none
 | .hof _ _ _,_=>none
 | .any,_=>none
 | .bld _ _,_=>none
 | .tr _,_=>none
 | .og id k t,v=>WR σ id k t v
 | .dp ids t,v=>LD σ ids t v
 | .fz _,_=>none
 | .kz _,_=>none
def cM:Sh->Bool
 | .pr _ _=>true
 |_=>false
def A1D(σ:SSo)(s:Sh):SV->Option s.T
 | .bt u c=>bif cM s&&u.same (.agg s.ty)then OU σ s c else none
 |_=>none
def cN(k:Nat):SV->Bool
 | .val t _=>t.same .self
 | .slf j=>Nat.beq j k
 | .ptr j [] _=>Nat.beq j k
 |_=>false
def TJ(σ:SSo)(el:Nat):SV->Option (List Int)
 | .ptr k [] _=>match σ k with
  | some (.box t c true)=>bif t.same GS then (match c with
   | .pr x y=>bif cN k x then L_ σ el (.int .u8) true y else none
   |_=>none)else none
  |_=>none
 |_=>none
def TK(σ:SSo)(c:Sh):SV->Option c.T
 | .ptr k [] _=>match σ k with
  |some (.box t v true)=>if t.same c.ty=true then OU σ c v else none
  |_=>none
 |_=>none
def cO(σ:SSo)(t:Ty):SV->Option t.T
 | .ptr k [] _=>match σ k with
  |some (.kv u x)=>Ty.cast? u t x
  |some (.box u c false)=>bif u.same t then c.asC σ t else none
  |_=>none
 |_=>none
def TL(fs:Nat->Option FSpec)(σ:SSo):(s:Sh)->SV->Option s.T
 | .val t,v=>v.asV σ t
 | .box c,v=>TK σ c v
 | .hof nd d c,v=>OS nd fs σ d c v
 | .own id t w,v=>L_ σ id t w v
 | .io id t,v=>L_ σ id t true v
 | .omap a b,v=>WQ σ a b v
 | .fn f,v=>WS f v
 | .nilS,v=>WU v
 | .nns e,v=>cJ e v
 | .mns e,v=>cL e v
 | .pr _ _,_=>none
 | .any,_=>some ()
 | .bld el _,v=>TJ σ el v
 | .tr s,v=>A1D σ s v
 | .og id k t,v=>WR σ id k t v
 | .dp ids t,v=>LD σ ids t v
 | .fz t,v=>WN σ t v
 | .kz t,v=>cO σ t v
def FR:SV->List Nat
 | .obj k _=>[k]
 |_=>[]
def RG:(s:Sh)->SV->List Nat
 | .own _ _ _,v=>FR v
 | .io _ _,v=>FR v
 | .omap _ _,v=>FR v
 | .og _ _ _,v=>FR v
 | .dp _ _,v=>FR v
 | .pr a b,v=>match v.halves with
  |some (x,y)=>RG a x++RG b y
  |none=>[]
 |_,_=>[]
def cQ(σ:SSo)(c:Sh):SV->List Nat
 | .ptr k _ _=>k::(match σ k with
  |some (.box _ v _)=>RG c v
  |_=>[])
 |_=>[]
def cR(σ:SSo):SV->List Nat
 | .ptr k _ _=>k::(match σ k with
  |some (.box _ (.pr _ y) _)=>FR y
  |_=>[])
 |_=>[]
def cS(σ:SSo):(s:Sh)->SV->List Nat
 | .own _ _ _,v=>FR v
 | .io _ _,v=>FR v
 | .omap _ _,v=>FR v
 | .og _ _ _,v=>FR v
 | .dp _ _,v=>FR v
 | .box c,v=>cQ σ c v
 | .bld _ _,v=>cR σ v
 | .tr s,.bt _ c=>RG s c
 |_,_=>[]
def IH(σ:SSo):List Sh->List SV->List Nat
 |a::l,v::vs=>cS σ a v++IH σ l vs
 |_,_=>[]
def FE(k:Nat):List Nat->Bool
 |[]=>false
 |j::r=>Nat.beq k j||FE k r
def MY:List Nat->Bool
 |[]=>true
 |k::r=>!(FE k r)&&MY r
def NX(fs:Nat->Option FSpec)(σ:SSo):(l:List Sh)->List SV->Option (TupR l)
 |[],[]=>some ()
 |[a],[v]=>TL fs σ a v
 |a::b::r,v::w=>match TL fs σ a v,NX fs σ (b::r) w with
  |some x,some y=>some (x,y)
  |_,_=>none
 |_,_=>none
structure Mk where
 sv:SV
 obs:List (Nat×Option Obj)
 nx:Nat
def FG:(s:Sh)->s.T->Nat->Mk
 | .val t,x,n=>⟨.val t x,[],n⟩
 | .own id t w,xs,n=>⟨.obj n 0,[(n,some (.sl id t xs 0 w))],n+1⟩
 | .io id t,xs,n=>⟨.obj n 0,[(n,some (.sl id t xs 0 true))],n+1⟩
 | .omap k v,es,n=>⟨.obj n 0,[(n,some (.mp k v es true))],n+1⟩
 | .pr a b,x,n=>
  let u:=FG a x.1 n
  let v:=FG b x.2 u.nx
  ⟨.pr u.sv v.sv,u.obs++v.obs,v.nx⟩
 | .box c,x,n=>
  let u:=FG c x (n+1)
  ⟨.ptr n [] c.ty,(n,some (.box c.ty u.sv true))::u.obs,u.nx⟩
 | .hof nd d c,F,n=>⟨.hof nd d c F,[],n⟩
 | .fn f,_,n=>⟨.fn f .snil,[],n⟩
 | .nilS,_,n=>⟨.nilS,[],n⟩
 | .nns e,x,n=>⟨.nns e x,[],n⟩
 | .mns e,x,n=>⟨.mns e x,[],n⟩
 | .any,_,n=>⟨.undef,[],n⟩
 | .bld el _,xs,n=>⟨.ptr n [] GS,[(n,some (.box GS (.pr (.slf n) (.obj (n+1) 0)) true)),(n+1,some (.sl el (.int .u8) xs 0 true))],n+2⟩
 | .tr s,x,n=>⟨.bt (.agg s.ty) (FG s x n).sv,(FG s x n).obs,(FG s x n).nx⟩
 | .og id k t,es,n=>⟨.obj n 0,[(n,some (.mg id k t es none (n+1)))],n+2⟩
 | .fz t,x,n=>⟨.val t x,[],n⟩
 | .kz t,x,n=>⟨.ptr n [] t,[(n,some (.kv t x))],n+1⟩
 | .dp ids t,x,n=>⟨.obj n 0,[(n,some (.dp ids t x (n+1) none true))],n+2⟩
def FB:(l:List Sh)->TupR l->Nat->List Mk
 |[],_,_=>[]
 |[a],x,n=>[FG a x n]
 |a::b::r,x,n=>FG a x.1 n::FB (b::r) x.2 (FG a x.1 n).nx
def Sh.cnt:Sh->Nat
 | .own _ _ _=>1
 | .io _ _=>1
 | .omap _ _=>1
 | .pr a b=>a.cnt+b.cnt
 | .box c=>c.cnt+1
 | .bld _ _=>2
 | .tr s=>s.cnt
 | .og _ _ _=>2
 | .dp _ _=>2
 | .kz _=>1
 |_=>0
def GF:List Sh->Nat
 |[]=>0
 |a::r=>a.cnt+GF r
def M0(l:List Mk)(n:Nat):Nat:=match l with
 |[]=>n
 |m::r=>M0 r m.nx
def FU{α:Type}(l:List (Nat×α))(i:Nat):Option α:=match l with
 |[]=>none
 |(j,x)::r=>bif Nat.beq i j then some x else FU r i
def KY(tm:List Nat)(l:List SV)(i:Nat):SV:=match tm,l with
 |t::tm,s::l=>bif Nat.beq i t then s else KY tm l i
 |_,_=>.undef
def JN(k:Kp)(x:TupR k.sh):St:=
 let l:=FB k.sh x 0
 let obs:=l.flatMap (·.obs)
 {slots:=KY k.tm (l.map (·.sv)),sto:=λi=>(FU obs i).getD none,n:=M0 l 0}
def KJ(fs:Nat->Option FSpec)(σ:SSo)(l:List Sh)(vs:List SV):Option (TupR l):=
 bif MY (IH σ l vs)then NX fs σ l vs else none
def A1E:SV->SV->Bool
 | .obj k g,.obj j h=>Nat.beq k j&&Nat.beq g h
 |_,_=>false
def MZ:SV->SV->Bool
 | .ptr k [] _,.ptr j [] _=>Nat.beq k j
 |_,_=>false
def A1F(sl:Nat->SV)(t c:Nat):Bool:=bif Nat.blt c 1048576 then A1E (sl t) (sl c)else bif Nat.blt c 1099511627776 then(match sl t with
 | .fn f (.scons s .snil)=>Nat.beq f (c / 1048576-1)&&MZ s (sl (c % 1048576))
 |_=>false)else match sl t with
 | .fn f (.scons s (.scons r .snil))=>Nat.beq f (c / 1048576 % 1048576-1)&&(MZ s (sl (c % 1048576))&&MZ r (sl (c / 1099511627776-1)))
 |_=>false
def RH:List (Nat×Nat)->(Nat->SV)->Bool
 |[],_=>true
 |p::r,sl=>A1F sl p.1 p.2&&RH r sl
def RI(sl:Nat->SV)(c:Nat):SV:=bif Nat.blt c 1048576 then sl c else bif Nat.blt c 1099511627776 then .fn (c / 1048576-1) (.scons (sl (c % 1048576)) .snil)else .fn (c / 1048576 % 1048576-1) (.scons (sl (c % 1048576)) (.scons (sl (c / 1099511627776-1)) .snil))
def WV(al:List (Nat×Nat))(sl:Nat->SV)(t:Nat):SV:=match FU al t with
 |some j=>RI sl j
 |none=>sl t
def TM(al:List (Nat×Nat))(k:Kp)(x:TupR k.sh):St:={slots:=WV al (JN k x).slots,sto:=(JN k x).sto,n:=(JN k x).n}
def NY(fs:Nat->Option FSpec)(k:Kp)(st:St):Option (TupR k.sh):=KJ fs st.sto k.sh (k.tm.map st.slots)
def gone:List Nat->List (Nat×Option Obj)
 |[]=>[]
 |k::r=>(k,none)::gone r
def EN(σ:SSo):List (Nat×Option Obj)->SSo
 |[]=>σ
 |(k,o)::r=>λi=>bif Nat.beq i k then o else EN σ r i
def J0:Obj->Obj
 | .sl id t xs g _=>.sl id t xs g false
 | .mp k v es _=>.mp k v es false
 | .box t c _=>.box t c false
 | .mg id k t es tk gk=>match tk with
  |none=>.mp k (.slice t) es false
  |some q=>.mg id k t es (some q) gk
 | .dp ids t x gk h w=>.dp ids t x gk h (match h with|none=>false|some _=>w)
 | .kn f c=>.kn f c
 | .kv t x=>.kv t x
def M_(σ:SSo):List Nat->List (Nat×Option Obj)
 |[]=>[]
 |k::r=>match σ k with
  |some o=>(k,some (J0 o))::M_ σ r
  |none=>M_ σ r
def ADJ:Obj->Bool
 | .sl _ _ _ _ w=>w
 | .mp _ _ _ w=>w
 | .box _ _ w=>w
 | .mg _ _ _ _ tk _=>tk.isNone
 | .dp _ _ _ _ h w=>w&&h.isNone
 | .kn _ _=>false
 | .kv _ _=>false
def hk(σ:SSo):SV->List Nat
 | .obj k _=>match σ k with
  |some o=>bif ADJ o then [k]else []
  |none=>[]
 |_=>[]
def WW(σ:SSo):SV->List Nat
 | .pr a b=>WW σ a++WW σ b
 |s=>hk σ s
def cT(σ:SSo):Sh->SV->List Nat
 | .val _,v=>WW σ v
 | .pr a b,.pr x y=>cT σ a x++cT σ b y
 |_,_=>[]
def WX(σ:SSo):SV->List Nat
 | .ptr k _ _=>match σ k with
  |some (.box _ c true)=>k::WW σ c
  |_=>[]
 |s=>hk σ s
def ADK(σ:SSo):Sh->SV->List Nat
 | .val _,v=>hk σ v
 | .fz _,v=>WX σ v
 | .kz _,v=>WX σ v
 | .hof _ _ _,.fn _ caps=>caps.list.flatMap (WX σ)
 | .tr s,.bt _ c=>cT σ s c
 | .box c,.ptr k _ _=>match σ k with
  |some (.box _ v _)=>cT σ c v
  |_=>[]
 |_,_=>[]
def nQ(σ:SSo):List Sh->List SV->List Nat
 | .val _::l,v::vs=>hk σ v++nQ σ l vs
 |_::l,_::vs=>nQ σ l vs
 |_,_=>[]
def cU(σ:SSo):List Sh->List SV->List Nat
 |s::l,v::vs=>ADK σ s v++cU σ l vs
 |_,_=>[]
def NZ(σ:SSo)(l:List Sh)(vs:List SV):SSo:=EN σ (M_ σ (cU σ l vs))
def K5(k:Kp)(st:St):St:={slots:=st.slots,sto:=NZ st.sto k.sh (k.tm.map st.slots),n:=st.n}
def TN(st:St)(wrs ks:List Nat)(k:Kp)(y:TupR k.sh):St:=
 let l:=FB k.sh y st.n
 { slots:=λt=>bif FE t k.tm then KY k.tm (l.map (·.sv)) t else bif FE t wrs then .undef else st.slots t,
   sto:=EN st.sto (l.flatMap (·.obs)++gone ks),n:=st.n+GF k.sh}
def cV(c:Nat):Nat:=bif Nat.blt c 1048576 then c else c % 1048576
def nR(c:Nat):Nat:=bif Nat.blt c 1099511627776 then cV c else c / 1099511627776-1
def TO(al:List (Nat×Nat))(wrs:List Nat)(sl:Nat->SV)(t:Nat):SV:=match FU al t with
 |some c=>bif FE t wrs||(FE (cV c) wrs||FE (nR c) wrs)then sl t else RI sl c
 |none=>sl t
def WY(al:List (Nat×Nat))(wrs:List Nat)(st:St):St:=match al with
 |[]=>st
 |al=>{slots:=TO al wrs st.slots,sto:=st.sto,n:=st.n}
def WZ{Ω:Type}(st:St)(wrs ks:List Nat):(l:List (Ex×Kp))->G_ l->(Ex->St->Option Ω)->Option Ω
 |[],x,_=>Empty.elim x
 |[o],x,K=>K o.1 (TN st wrs ks o.2 x)
 |o::p::r,x,K=>Sum.casesOn (motive:=λ_=>Option Ω) x (λy=>K o.1 (TN st wrs ks o.2 y)) (λy=>WZ st wrs ks (p::r) y K)
def cW(lax:Bool)(σ:SSo)(bx:Bool)(s:SV):Option (Nat×SV):=match bx with
 | false=>(match s with
  | .fn f c=>some (f,c)
  |_=>none)
 | true=>(match s with
  | .ptr k [] _=>(match σ k with
   |some (.box _ (.fn f c) w)=>bif lax|| !w then some (f,c)else none
   |some (.kn f c)=>some (f,c)
   |_=>none)
  |_=>none)
def W_:List Nat->List SV->List (Nat×SV)->Option (List (Nat×SV))
 |[],[],l=>some l
 |c::r,s::t,l=>bif Nat.blt c 1000000 then W_ r t l else W_ r t ((c-1000000,s)::l)
 |_,_,_=>none
def cX(σ:SSo)(sl:Nat->SV):List Kn->List (Nat×SV)->Option (List (Nat×SV))
 |[],l=>some l
 |q::r,l=>match cW false σ q.bx (sl q.p)with
  | some (_,c)=>bif MX c then (match W_ q.caps c.list l with
   |some l'=>cX σ sl r l'
   |none=>none)else none
  |none=>none
def X0(l:List (Nat×SV)):List Nat->Option (List SV)
 |[]=>some []
 |j::r=>match FU l j,X0 l r with
  |some s,some t=>some (s::t)
  |_,_=>none
def nS(σ:SSo)(sl:Nat->SV)(x:KX):Option (List SV):=match cX σ sl x.kn []with
 |some l=>X0 l (List.range x.m)
 |none=>none
def TP(sl:Nat->SV):List Nat->List SV->List (Nat×SV)->Option (List (Nat×SV))
 |[],[],l=>some l
 |c::r,s::t,l=>bif Nat.blt c 1000000 then(bif MZ (sl c) s then TP sl r t l else none)
  else (match FU l (c-1000000) with
   |some u=>bif MZ u s then TP sl r t l else none
   |none=>TP sl r t ((c-1000000,s)::l))
 |_,_,_=>none
def X6(lax:Bool)(σ:Nat→Option Obj)(sl:Nat→SV):List Kn→List (Nat×SV)→Option (List (Nat×SV))
 |[],l=>some l
 |q::r,l=>match cW lax σ q.bx (sl q.p)with
  | some (f,c)=>bif Nat.beq f q.f&&MX c then (match TP sl q.caps c.list l with
   |some l'=>X6 lax σ sl r l'
   |none=>none)else none
  |none=>none
def nT(x:KX):Bool:=x.kn.all λq=>q.caps.all λc=>Nat.blt c (1000000+x.m)
def X7(lax:Bool)(σ:SSo)(sl:Nat->SV)(x:KX):Option (List SV):=match bif nT x then X6 lax σ sl x.kn []else none with
 |some l=>X0 l (List.range x.m)
 |none=>none
def A1G(σ:SSo)(args:List SV):List Kn->List Nat
 |[]=>[]
 |q::r=>(bif q.bx then WX σ (args.getD q.p .undef)else [])++A1G σ args r
def frzX(σ:SSo)(s:KSpec)(args:List SV):List Nat:=A1G σ args s.kx.kn++(match X7 true σ (λt=>args.getD t .undef) s.kx with
 |some ps=>cU σ s.sp.ps (args++ps)
 |none=>[])
def HR:List Kn->Nat->List (Nat×Nat)
 |[],_=>[]
 |q::r,n=>bif q.bx then(q.p,n)::HR r (n+1)else HR r n
def X8(tm:List Nat)(svs:List SV)(ky:List (Nat×Nat))(c:Nat):SV:=bif Nat.blt c 1000000 then(match FU ky c with
 |some k=>.ptr k [] .bool
 |none=>KY tm svs c)else(svs.drop tm.length).getD (c-1000000) .undef
def TQ(tm:List Nat)(svs:List SV)(ky:List (Nat×Nat))(q:Kn):SV:=SV.ofList (q.caps.map (X8 tm svs ky))
def N0(tm:List Nat)(svs:List SV)(ky:List (Nat×Nat)):List Kn->Nat->List (Nat×Option Obj)
 |[],_=>[]
 |q::r,n=>bif q.bx then(n,some (.kn q.f (TQ tm svs ky q)))::N0 tm svs ky r (n+1)else N0 tm svs ky r n
def TR(tm:List Nat)(svs:List SV)(ky:List (Nat×Nat)):List Kn->Nat->Option SV
 |[],_=>none
 |q::r,t=>bif Nat.beq t q.p then some (bif q.bx then X8 tm svs ky q.p else .fn q.f (TQ tm svs ky q))else TR tm svs ky r t
def nU(tm:List Nat)(svs:List SV)(ky:List (Nat×Nat))(kn:List Kn)(t:Nat):SV:=match TR tm svs ky kn t with
 |some s=>s
 |none=>KY tm svs t
def TT(k:Kp)(x:KX)(v:TupR k.sh):St:=
 let l:=FB k.sh v 0
 let n1:=M0 l 0
 let svs:=l.map (·.sv)
 let ky:=HR x.kn n1
 {slots:=nU k.tm svs ky x.kn,sto:=λi=>(FU (N0 k.tm svs ky x.kn n1++l.flatMap (·.obs)) i).getD none,n:=n1+ky.length}
def TU(st:St)(wrs ks:List Nat)(x:KX)(k:Kp)(y:TupR k.sh):St:=
 let l:=FB k.sh y st.n
 let n1:=st.n+GF k.sh
 let svs:=l.map (·.sv)
 let ky:=HR x.kn n1
 {slots:=λt=>(match TR k.tm svs ky x.kn t with|some s=>s|none=>bif FE t k.tm then KY k.tm svs t else bif FE t wrs then .undef else st.slots t),sto:=EN st.sto (N0 k.tm svs ky x.kn n1++(l.flatMap (·.obs)++gone ks)),n:=n1+ky.length}
def nV{Ω:Type}(st:St)(wrs ks:List Nat)(x:KX):(l:List (Ex×Kp))->G_ l->(Ex->St->Option Ω)->Option Ω
 |[],y,_=>Empty.elim y
 |[o],y,K=>K o.1 (TU st wrs ks x o.2 y)
 |o::p::r,y,K=>Sum.casesOn (motive:=λ_=>Option Ω) y (λy=>K o.1 (TU st wrs ks x o.2 y)) (λy=>nV st wrs ks x (p::r) y K)
def cY(k:Kp)(x:KX)(st:St):Option (List SV):=match X7 false st.sto st.slots x with
 |some ps=>some (k.tm.map st.slots++ps)
 |none=>none
def X9(k:Kp)(x:KX)(st:St):Option (List SV):=match nS st.sto st.slots x with
 |some ps=>some (k.tm.map st.slots++ps)
 |none=>none
def nW(k:Kp)(vs:List SV)(st:St):St:={slots:=st.slots,sto:=NZ st.sto k.sh vs,n:=st.n}
def RJ(fs:Nat->Option FSpec)(k:Kp)(x:KX)(st:St):Option (TupR k.sh):=match X9 k x st with
 |some vs=>KJ fs (NZ st.sto k.sh vs) k.sh vs
 |none=>none
def N_(wrs:List Nat):List Kn->Bool
 |[]=>true
 |q::r=>!(FE q.p wrs)&&(q.caps.all λc=>Nat.ble 1000000 c|| !(FE c wrs))&&N_ wrs r
def O0(x:KX):Bool:=x.kn.all λq=>Nat.blt q.p 1000000
structure Upd where
 sv:SV
 wr:List (Nat×Option Obj)
variable{u:Upd}
inductive OpRes:Type 1 where
 |pure (u:Upd)
 |may (α:Type) (m:Option α) (d:α) (u:α->Upd)
variable{r:OpRes}
def OpRes.v(s:SV):OpRes:=.pure ⟨s,[]⟩
def at? {α:Type}(l:List α)(i:Int):Option α:=bif decide (0<=i)then l[i.toNat]? else none
def cut? {α:Type}(l:List α)(lo hi:Int):Option (List α):=
 bif decide (0<=lo)&&(decide (lo<=hi)&&decide (hi<=l.length))then some ((l.take hi.toNat).drop lo.toNat)else none
def cat? (a b:DX):Option DX:=bif decide (a.length+b.length<=281474976710656)then some (a++b)else none
def app? {α:Type}(B:Nat)(a b:List α):Option (List α):=bif decide ((a.length+b.length)*B<=70368744177664)then some (a++b)else none
def in? (n:Nat)(i:Int):Option Unit:=bif decide (0<=i)&&decide (i<n)then some ()else none
def div? (k:IntKind)(a b:Int):Option Int:=bif b==0 then none else some (k.wrap (a.tdiv b))
def mod? (a b:Int):Option Int:=bif b==0 then none else some (a.tmod b)
def FL(l:DX):List Int:=l.map λb=>(b.toNat:Int)
def HA(l:List Int):DX:=l.map λn=>UInt8.ofNat n.toNat
def KK(x y:Bool):Bool:=x==y
def E1(x y:Int):Bool:=x==y
def E5(x y:DX):Bool:=x==y
def Ty.beq:(t:Ty)->t.T->t.T->Option Bool
 | .unit,_,_=>some true
 | .bool,x,y=>some (KK x y)
 | .int _,x,y=>some (E1 x y)
 | .str,x,y=>some (E5 x y)
 | .agg t,x,y=>Ty.beq t x y
 | .prod a b,x,y=>match Ty.beq a x.1 y.1,Ty.beq b x.2 y.2 with
  |some u,some v=>some (u&&v)
  |_,_=>none
 |_,_,_=>none
def FM{α β:Type}(eq:α->α->Bool)(k:α):List (α×β)->Option β
 |[]=>none
 |e::r=>bif eq k e.1 then some e.2 else FM eq k r
def FK{α β:Type}(eq:α->α->Bool)(k:α)(v:β):List (α×β)->List (α×β)
 |[]=>[(k,v)]
 |e::r=>bif eq k e.1 then(k,v)::r else e::FK eq k v r
def N1:(t:Ty)->Option (t.T->t.T->Bool)
 | .bool=>some KK
 | .int _=>some E1
 | .str=>some E5
 |_=>none
def nX(ke:Bool):(t:Ty)->Option (t.T->t.T->Bool)
 | .bool=>some KK
 | .int _=>some E1
 | .str=>some E5
 |_=>none
def JC(k:IntKind)(a b:Int):Int:=k.wrap ((BitVec.ofInt k.bits a &&& BitVec.ofInt k.bits b).toNat:Int)
def II(k:IntKind)(a b:Int):Int:=k.wrap ((BitVec.ofInt k.bits a|||BitVec.ofInt k.bits b).toNat:Int)
def A1H(k:IntKind)(a b:Int):Int:=k.wrap ((BitVec.ofInt k.bits a ^^^ BitVec.ofInt k.bits b).toNat:Int)
def OV(k:IntKind)(a b:Int):Int:=k.wrap ((BitVec.ofInt k.bits a &&& ~~~BitVec.ofInt k.bits b).toNat:Int)
def shl? (k:IntKind)(a b:Int):Option Int:=bif decide (b<0)then none else some (k.wrap (a*2 ^ min b.toNat k.bits))
def shr? (k:IntKind)(a b:Int):Option Int:=bif decide (b<0)then none else some (a.fdiv (2 ^ min b.toNat k.bits))
def nY(op:BinOp)(k:IntKind)(a b:Int):Option OpRes:=
 match op with
 | .add=>some (.v (.val (.int k) (k.wrap (a+b))))
 | .sub=>some (.v (.val (.int k) (k.wrap (a-b))))
 | .mul=>some (.v (.val (.int k) (k.wrap (a*b))))
 | .quo=>some (.may Int (div? k a b) 0 λx=>⟨.val (.int k) x,[]⟩)
 | .rem=>some (.may Int (mod? a b) 0 λx=>⟨.val (.int k) x,[]⟩)
 | .eql=>some (.v (.val .bool (E1 a b)))
 | .neq=>some (.v (.val .bool (!(E1 a b))))
 | .lss=>some (.v (.val .bool (decide (a<b))))
 | .leq=>some (.v (.val .bool (decide (a<=b))))
 | .gtr=>some (.v (.val .bool (decide (b<a))))
 | .geq=>some (.v (.val .bool (decide (b<=a))))
 | .and=>some (.v (.val (.int k) (JC k a b)))
 | .or=>some (.v (.val (.int k) (II k a b)))
 | .xor=>some (.v (.val (.int k) (A1H k a b)))
 | .andNot=>some (.v (.val (.int k) (OV k a b)))
 |_=>none
def nZ(op:BinOp)(a b:DX):Option OpRes:=
 match op with
 | .add=>some (.may DX (cat? a b) [] λx=>⟨.val .str x,[]⟩)
 | .eql=>some (.v (.val .bool (E5 a b)))
 | .neq=>some (.v (.val .bool (!(E5 a b))))
 | .lss=>some (.v (.val .bool (Op.bytesLess a b)))
 | .leq=>some (.v (.val .bool (Op.bytesLess a b||E5 a b)))
 | .gtr=>some (.v (.val .bool (!(Op.bytesLess a b||E5 a b))))
 | .geq=>some (.v (.val .bool (!(Op.bytesLess a b))))
 |_=>none
def o0(op:BinOp)(x y:Bool):Option OpRes:=
 match op with
 | .eql=>some (.v (.val .bool (KK x y)))
 | .neq=>some (.v (.val .bool (!(KK x y))))
 |_=>none
def cZ(op:BinOp):SV->SV->Option OpRes
 | .val (.int k) a,.val (.int l) b=>match op with
  | .shl=>some (.may Int (shl? k a b) 0 λx=>⟨.val (.int k) x,[]⟩)
  | .shr=>some (.may Int (shr? k a b) 0 λx=>⟨.val (.int k) x,[]⟩)
  |op=>bif NV k l then nY op k a b else none
 | .val .str a,.val .str b=>nZ op a b
 | .val .bool a,.val .bool b=>o0 op a b
 |_,_=>none
def M1(op:BinOp)(b:Bool):Option OpRes:=match op with
 | .eql=>some (.v (.val .bool b))
 | .neq=>some (.v (.val .bool (!b)))
 |_=>none
def o4(op:BinOp)(t:Option Ty)(x y:SV):Option OpRes:=match t with
 |some (.slice _)=>match x,y with
  | .nns _ _,.nilS=>M1 op false
  | .mns _ x,.nilS=>M1 op x.isNone
  | .nilS,.nilS=>M1 op true
  |_,_=>none
 |some (.ptr _)=>match x,y with
  | .val (.ptr e) p,.nilP=>M1 op (show Option e.T from p).isNone
  | .ref _ _,.nilP=>M1 op false
  | .ptr _ _ _,.nilP=>M1 op false
  | .nilP,.nilP=>M1 op true
  |_,_=>none
 |_=>none
def A1I:Ty->Bool
 | .agg _=>true
 |_=>false
def A1J(ty:Option Ty)(ok:Bool)(op:BinOp)(x y:SV):Option OpRes:=match ty with
 | some t=>bif ok&&A1I t then (match x.as t,y.as t with
  |some u,some v=>match Ty.beq t u v with
   |some b=>M1 op b
   |none=>none
  |_,_=>none)else none
 |none=>none
def o5(op:UnOp):SV->Option OpRes
 | .val .bool b=>match op with| .not=>some (.v (.val .bool (!b)))|_=>none
 | .val (.int k) n=>match op with| .neg=>some (.v (.val (.int k) (k.wrap (0-(show Int from n)))))|_=>none
 |_=>none
def o6:SV->SV->SV->Option OpRes
 | .val .bool c,.val t x,.val u y=>match Ty.cast? u t y with
  |some z=>some (.v (.val t (bif c then x else z)))
  |none=>none
 |_,_,_=>none
def o7(σ:SSo)(p:Ty)(i:Nat)(s:SV)(x:p.T):Option p.T:=
 bif Nat.blt i p.fields then (match p.sub (GJ p.fields i) with
  |some u=>match s.asV σ u with
   |some y=>Ty.put p (GJ p.fields i) x u y
   |none=>none
  |none=>none)else none
def XA(σ:SSo)(p:Ty):List (Nat×SV)->p.T->Option p.T
 |[],x=>some x
 |q::r,x=>match o7 σ p q.1 q.2 x with
  |some y=>XA σ p r y
  |none=>none
def PS(σ:SSo)(e:Ty):List (Nat×SV)->List e.T->Option (List e.T)
 |[],xs=>some xs
 | q::r,xs=>bif Nat.blt q.1 xs.length then (match q.2.asV σ e with
  |some y=>PS σ e r (xs.set q.1 y)
  |none=>none)else none
def c_(σ:SSo)(t:Ty)(ps:List (Nat×SV)):Option OpRes:=
 match t with
 | .agg p=>(XA σ p ps p.dflt).map λx=>.v (.val (.agg p) x)
 | .arr n e=>(PS σ e ps (List.replicate n e.dflt)).map λx=>.v (.val (.arr n e) x)
 |_=>none
def o8(σ:SSo)(u:Ty):SV->Option SV
 | .nilS=>match u with
  | .slice _=>some .nilS
  |_=>none
 | .obj k g=>match PQ σ k g u with
  |some x=>some (.val u x)
  |none=>match u with
   | .slice _=>some (.obj k g)
   | .map _ _=>some (.obj k g)
   |_=>none
 |s=>(s.asV σ u).map (.val u ·)
def o9(σ:SSo)(p:Ty)(i:Nat)(s c:SV):Option SV:=
 bif Nat.blt i p.fields then (match p.sub (GJ p.fields i) with
  |some u=>match o8 σ u s with
   |some l=>c.setAt (GJ p.fields i) l
   |none=>none
  |none=>none)else none
def TV(σ:SSo)(p:Ty):List (Nat×SV)->SV->Option SV
 |[],c=>some c
 |q::r,c=>match o9 σ p q.1 q.2 c with
  |some d=>TV σ p r d
  |none=>none
def O1(id:Nat)(t:Ty)(x:t.T):(u:Ty)->Option u.T
 | .ialt j a r=>bif Nat.beq id j then(Ty.cast? t a x).map Sum.inl else(O1 id t x r).map Sum.inr
 |_=>none
def loadAt(σ:SSo)(t:Ty):SV->Option SV
 | .ref u x=>(LZ u t x).map (.val t ·)
 | .ptr k p _=>match σ k with
  |some (.box _ c _)=>match c.getAt p with
   | some (.obj j g)=>(match t with
    | .slice _=>some (.obj j g)
    | .map _ _=>some (.obj j g)
    |_=>none)
   | some (.ptr j q u)=>(match t with
    | .ptr _=>some (.ptr j q u)
    |_=>none)
   | some (.mns e x)=>(match t with
    | .slice _=>some (.mns e x)
    |_=>none)
   | some (.fn f caps)=>(match t with
    | .fnc _ _=>some (.fn f caps)
    |_=>none)
   |some s=>(s.asC σ t).map (.val t ·)
   |none=>none
  | some (.kn f caps)=>(match p,t with
   |[],.fnc _ _=>some (.fn f caps)
   |_,_=>none)
  | some (.kv e x)=>(match Ty.at e p x with
   |some ⟨u,y⟩=>(LZ u t y).map (.val t ·)
   |none=>none)
  |_=>none
 | .ptri k p i q _=>match σ k with
  |some (.box _ c _)=>match c.getAt p with
   |some (.val (.arr _ e) xs)=>match Ty.at e q ((show List e.T from xs).getD i e.dflt)with
    |some ⟨u,y⟩=>(LZ u t y).map (.val t ·)
    |none=>none
   |_=>none
  |_=>none
 | .elem k g i q _=>match σ k with
  | some (.sl _ e xs g' true)=>bif Nat.beq g g' then (match Ty.at e q (xs.getD i e.dflt) with
   |some ⟨u,y⟩=>(LZ u t y).map (.val t ·)
   |none=>none)else none
  | some (.dp [_] e xs _ none true)=>bif Nat.beq g 0 then (match Ty.at e q ((show List e.T from xs).getD i e.dflt) with
   |some ⟨u,y⟩=>(LZ u t y).map (.val t ·)
   |none=>none)else none
  | some (.dp (_::id2::r) e xs _ _ true)=>(match q,t with
   |[],.slice _=>bif Nat.beq g 0 then some (.lnS ((show List (List (E7 r e).T)from xs).getD i []).length)else none
   |_,_=>none)
  |_=>none
 |_=>none
def H7:Ty->SV
 | .prod a b=>.pr (H7 a) (H7 b)
 | .slice _=>.nilS
 | .agg (.prod a b)=>.pr (H7 a) (H7 b)
 |t=>.val t t.dflt
def TW(t:Ty):SV->Option SV
 | .obj k g=>(match t with
  | .slice _=>some (.obj k g)
  | .map _ _=>some (.obj k g)
  |_=>none)
 | .ptr k p u=>(match t with
  | .ptr _=>some (.ptr k p u)
  |_=>none)
 | .bt u c=>bif u.same t then some c else none
 | .fn f caps=>(match t with
  | .fnc _ _=>some (.fn f caps)
  |_=>none)
 | .nns e x=>(match t with
  | .slice _=>some (.nns e x)
  |_=>none)
 | .nilS=>(match t with
  | .slice _=>some .nilS
  |_=>none)
 |s=>(s.as t).map (.val t ·)
def A1K(c:SV)(p:List Bool)(n:Nat)(e:Ty)(xs:List e.T)(i:Nat)(z:e.T):Option SV:=c.setAt p (.val (.arr n e) (xs.set i z))
def TX(σ:SSo)(t:Ty):SV->Option SV
 | .ptr k p u=>match t with
  | .agg (.prod a b)=>bif u.bare.same (.prod a b) then (match σ k with
   |some (.box _ c _)=>match c.getAt p with
    |some s=>some (.bt (.agg (.prod a b)) s)
    |none=>none
   |_=>none)else none
  |_=>none
 |_=>none
def XB(σ:SSo)(t:Ty)(ps:List (Nat×SV)):Option OpRes:=
 match t with
 | .agg (.prod a b)=>(TV σ (.prod a b) ps (H7 (.prod a b))).map λc=>.v (.bt (.agg (.prod a b)) c)
 |_=>none
def storeAt(σ:Nat→Option Obj)(t:Ty)(v:SV):SV→Option (Nat×Obj)
 | .ptr k p u=>if u.bare.same t.bare=true then (match σ k with
  |some (.box b c true)=>match TW t v with
   |some s=>(c.setAt p s).map λc'=>(k,.box b c' true)
   |none=>none
  |_=>none)else none
 | .ptri k p i q _=>match σ k with
  |some (.box b c true)=>match c.getAt p with
   |some (.val (.arr n e) xs)=>match v.as t with
    |some y=>match Ty.put e q ((show List e.T from xs).getD i e.dflt) t y with
     |some z=>(A1K c p n e xs i z).map λc'=>(k,.box b c' true)
     |none=>none
    |none=>none
   |_=>none
  |_=>none
 | .elem k g i q _=>match σ k with
  | some (.sl id e xs g' true)=>bif Nat.beq g g' then (match v.asV σ t with
   |some y=>match Ty.put e q (xs.getD i e.dflt) t y with
    |some z=>some (k,.sl id e (xs.set i z) g true)
    |none=>none
   |none=>none)else none
  | some (.dp [id] e xs gk none true)=>bif Nat.beq g 0 then (match v.asV σ t with
   |some y=>match Ty.put e q ((show List e.T from xs).getD i e.dflt) t y with
    |some z=>some (k,.dp [id] e ((show List e.T from xs).set i z) gk none true)
    |none=>none
   |none=>none)else none
  |_=>none
 |_=>none
def XC(t:Ty):Bool:=bif Nat.beq t.fields 1 then t.bare.same t else true
def N2(t:Ty)(f:Nat)(s:SV):Option SV:=
 bif XC t then (match s with
  | .ptr k p u=>if u.bare.same t=true then(t.sub (GJ t.fields f)).map λv=>.ptr k (p++GJ t.fields f) v else none
  | .ptri k p i q u=>if u.bare.same t=true then(t.sub (GJ t.fields f)).map λv=>.ptri k p i (q++GJ t.fields f) v else none
  | .elem k g i q u=>if u.bare.same t=true then(t.sub (GJ t.fields f)).map λv=>.elem k g i (q++GJ t.fields f) v else none
  | .ref u x=>match MW u t x with
   |some y=>match Ty.at t (GJ t.fields f) y with
    |some ⟨v,z⟩=>some (.ref v z)
    |none=>none
   |none=>none
  |_=>none)else none
def XD(e:Ty)(xs:List e.T)(i:Int):OpRes:=.may e.T (at? xs i) e.dflt λx=>⟨.ref e x,[]⟩
def oA(σ:SSo)(t:Ty)(i:Int)(s:SV):Option OpRes:=
 match t with
 | .slice e=>match s with
  | .obj k g=>match σ k with
   | some (.sl _ e' xs g' w)=>bif Nat.beq g g'&&e'.same e then (bif w then some (.may Unit (in? xs.length i) () λ_=>⟨.elem k g i.toNat [] e',[]⟩)
    else some (XD e' xs i))else none
   | some (.dp (id::r) t' xs gk h w)=>bif Nat.beq g 0&&(E7 r t').same e then (bif w then some (.may Unit (in? (show List (E7 r t').T from xs).length i) () λ_=>⟨.elem k g i.toNat [] (E7 r t'),[]⟩)
    else some (XD (E7 r t') xs i))else none
   |_=>none
  |s=>match s.as (.slice e)with
   |some xs=>some (XD e xs i)
   |none=>none
 | .arr n e=>match PR σ s with
  | .ptr k p u=>bif u.same (.arr n e)then some (.may Unit (in? n i) () λ_=>⟨.ptri k p i.toNat [] e,[]⟩)else none
  | .ref u x=>match Ty.cast? u (.arr n e) x with
   |some xs=>some (XD e xs i)
   |none=>none
  |_=>none
 |_=>none
def A1L(s:DX)(i:Int):OpRes:=.may UInt8 (at? s i) 0 λb=>⟨.val (.int .u8) (b.toNat:Int),[]⟩
def A1M(e:Ty)(xs:List e.T)(i:Int):OpRes:=.may e.T (at? xs i) e.dflt λx=>⟨.val e x,[]⟩
def oB(t:Ty)(i:Int)(s:SV):Option OpRes:=
 match t with
 | .str=>match s with
  | .val .str s=>some (A1L s i)
  |_=>none
 | .arr n e=>match s with
  | .val u x=>match Ty.cast? u (.arr n e) x with
   |some xs=>some (A1M e xs i)
   |none=>none
  |_=>none
 |_=>none
def XE(n:Nat):OpRes:=.v (.val (.int .i64) (n:Int))
def ADL(s:DX):OpRes:=XE s.length
def oC(e:Ty)(xs:List e.T):OpRes:=XE xs.length
def len? (n:Nat):Option Int:=bif Nat.ble n 281474976710656 then some (n:Int)else none
def A1N(n:Nat):OpRes:=.may Int (len? n) 0 λk=>⟨.val (.int .i64) k,[]⟩
def A1O(a b:Ty)(es:List (a.T×b.T)):OpRes:=A1N es.length
def oD(σ:Nat→Option Obj)(t:Ty)(s:SV):Option OpRes:=
 match t with
 | .str=>match s with
  | .val .str s=>some (ADL s)
  |_=>none
 | .arr n _=>bif Nat.ble n 281474976710656 then some (XE n)else none
 | .slice e=>match s with
  | .obj k g=>match σ k with
   |some (.sl _ e' xs g' _)=>bif Nat.beq g g' then some (oC e' xs)else none
   |some (.dp (id::r) t' xs gk h w)=>bif Nat.beq g 0 then some (oC (E7 r t') xs)else none
   |_=>none
  | .lnS n=>some (XE n)
  |s=>match s.as (.slice e)with
   |some xs=>some (oC e xs)
   |none=>none
 | .map a b=>match s with
  | .obj k g=>match σ k with
   |some (.mp a' b' es _)=>bif Nat.beq g 0 then some (A1O a' b' es)else none
   |_=>none
  | .val u x=>match Ty.cast? u (.map a b) x with
   |some es=>some (A1O a b es)
   |none=>none
  |_=>none
 |_=>none
def PT(sl:Option SV)(d:Int):Option Int:=match sl with
 |some (.val (.int _) n)=>some n
 |none=>some d
 |_=>none
def oE(s:DX)(lo hi:Option SV):Option OpRes:=match PT lo 0,PT hi s.length with
 |some l,some h=>some (.may DX (cut? s l h) [] λy=>⟨.val .str y,[]⟩)
 |_,_=>none
def TY(e:Ty)(xs:List e.T)(lo hi:Option SV):Option OpRes:=match PT lo 0,PT hi xs.length with
 |some l,some h=>some (.may (List e.T) (cut? xs l h) [] λy=>⟨.val (.slice e) y,[]⟩)
 |_,_=>none
def oG(σ:SSo)(t:Ty)(x:SV)(lo hi:Option SV):Option OpRes:=
 match t with
 | .str=>match x with
  | .val .str s=>oE s lo hi
  |_=>none
 | .slice e=>match x.asV σ (.slice e)with
  |some xs=>TY e xs lo hi
  |none=>none
 |_=>none
def dA(σ:SSo)(t:Ty)(x:SV)(lo hi:Option SV):Option OpRes:=
 match t with
 | .arr n e=>match PR σ x with
  | .ref u y=>match Ty.cast? u (.arr n e) y with
   |some xs=>bif Nat.ble n 281474976710656 then TY e xs lo hi else none
   |none=>none
  |_=>none
 |t=>oG σ t x lo hi
def oH:SV->Nat->Option OpRes
 | .tup l,i=>match l.list[i]? with
  |some s=>some (.v s)
  |none=>none
 |_,_=>none
def oI(t:Ty)(f:Nat):SV->Option OpRes
 | .val u x=>match u with
  | .agg q=>match Ty.cast? q t x with
   |some y=>match Ty.at t (GJ t.fields f) y with
    |some ⟨v,z⟩=>some (.v (.val v z))
    |none=>none
   |none=>none
  |_=>none
 |_=>none
def XF(ke:Bool)(k v:Ty)(ok:Bool)(key:SV)(es:List (k.T×v.T)):Option OpRes:=match nX ke k,key.as k with
 |some eq,some x=>
  some (.v (bif ok then .tup (.scons (.val v ((FM eq x es).getD v.dflt)) (.scons (.val .bool (FM eq x es).isSome) .snil))else .val v ((FM eq x es).getD v.dflt)))
 |_,_=>none
def dB(σ:SSo)(ke:Bool)(t:Ty)(ok:Bool)(m key:SV):Option OpRes:=
 match t with
 | .map k v=>match m with
  | .val u es=>match Ty.cast? u (.map k v) es with
   |some es=>XF ke k v ok key es
   |none=>none
  | .obj j g=>match σ j with
   |some (.mp k' v' es _)=>bif Nat.beq g 0&&(k'.same k&&v'.same v)then XF ke k' v' ok key es else none
   |some (.mg _ k' t' es _ _)=>bif Nat.beq g 0&&(k'.same k&&(Ty.slice t').same v)then XF ke k' (.slice t') ok key es else none
   |_=>none
  |_=>none
 |_=>none
def dC(σ:SSo)(self:Nat)(t:Ty)(m key:SV):Option OpRes:=
 match t with
 | .map k v=>match m with
  | .obj j g=>match σ j with
   | some (.mg id k' t' es none _)=>bif Nat.beq g 0&&(k'.same k&&(Ty.slice t').same v) then (match N1 k',key.as k' with
    |some eq,some a=>some (.pure ⟨.obj self 0,[(self,some (.sl id t' ((FM eq a es).getD []) 0 false)),(j,some (.mg id k' t' es (some a) (self+1)))]⟩)
    |_,_=>none)else none
   |_=>none
  |_=>none
 |_=>none
def oJ(σ:SSo)(self:Nat)(t:Ty)(m key x:SV):Option OpRes:=
 match t with
 | .map k v=>match m,x with
  | .obj j g,.obj i h=>match σ j,σ i with
   |some (.mg id k' t' es tk _),some (.sl id2 t2 xs h2 false)=>
    bif Nat.beq g 0&&((k'.same k&&(Ty.slice t').same v)&&(Nat.beq h 0&&(Nat.beq h2 0&&(Nat.beq id id2 && !(Nat.beq i j))))) then (match N1 k',key.as k',Ty.cast? (.slice t2) (.slice t') xs with
     |some eq,some a,some ys=>match tk with
      |none=>some (.pure ⟨.undef,[(j,some (.mg id k' t' (FK eq a ys es) none (self+1))),(i,none)]⟩)
      |some q=>some (.may Unit (bif eq q a then some ()else none) () λ_=>⟨.undef,[(j,some (.mg id k' t' (FK eq a ys es) none (self+1))),(i,none)]⟩)
     |_,_,_=>none)else none
   |_,_=>none
  |_,_=>none
 |_=>none
def A1P(el self:Nat)(k:Ty):Ty->Option OpRes
 | .slice e=>some (.pure ⟨.obj self 0,[(self,some (.mg el k e [] none (self+1)))]⟩)
 |_=>none
def A1Q(σ:SSo):SV->Bool
 | .obj j _=>match σ j with
  |some (.mg _ _ _ _ _ _)=>true
  |_=>false
 |_=>false
def dD(σ:SSo)(ke:Bool)(t:Ty)(m key x:SV):Option OpRes:=
 match t with
 | .map k v=>match m with
  | .obj j g=>match σ j with
   | some (.mp k' v' es true)=>bif Nat.beq g 0&&(k'.same k&&v'.same v) then (match nX ke k',key.as k',x.asV σ v' with
    |some eq,some a,some b=>some (.pure ⟨.undef,[(j,some (.mp k' v' (FK eq a b es) true))]⟩)
    |_,_,_=>none)else none
   |_=>none
  |_=>none
 |_=>none
def XG(σ:SSo)(w:Bool)(self id:Nat)(t:Ty)(s x:SV):Option OpRes:=
 match t with
 | .slice e=>match x.asV σ (.slice e)with
  |some ys=>match s with
   | .nilS=>some (.may (List e.T) (app? (24*e.sz) [] ys) [] λzs=>⟨.obj self 0,[(self,some (.sl id e zs 0 w))]⟩)
   | .em _=>some (.may (List e.T) (app? (24*e.sz) [] ys) [] λzs=>⟨.nns e zs,[(self,some (.sl id e zs 0 false))]⟩)
   | .obj k g=>match σ k with
    | some (.sl id' e' xs g' w')=>bif Nat.beq g 0&&(Nat.beq g' 0&&Nat.beq id id') then (match Ty.cast? (.slice e') (.slice e) xs with
     |some xs=>some (.may (List e.T) (app? (24*e.sz) xs ys) [] λzs=>⟨.obj self 0,[(self,some (.sl id e zs 0 w')),(k,none)]⟩)
     |none=>none)else none
    |_=>none
   |_=>none
  |none=>none
 |_=>none
def dE(σ:SSo)(self id:Nat)(t:Ty)(s x:SV):Option OpRes:=
 match t,s with
 | .slice e,.obj k g=>match σ k with
  | some (.dp [id'] e' xs _ none true)=>bif Nat.beq g 0&&(Nat.beq id id'&&e'.same e) then (match x.asV σ (.slice e') with
   |some ys=>some (.may (List e'.T) (app? (24*e'.sz) (show List e'.T from xs) ys) [] λzs=>⟨.obj self 0,[(self,some (.dp [id'] e' zs (self+1) none true)),(k,none)]⟩)
   |none=>none)else none
  | some (.dp (id'::id2::r) e' xs _ none true)=>bif Nat.beq g 0&&(Nat.beq id id'&&((E7 (id2::r) e').same e && !(FE k (FR x)))) then (match LD σ (id'::id2::r) e' x with
   |some ys=>some (.may (List (E7 (id2::r) e').T) (app? 24 (show List (E7 (id2::r) e').T from xs) ys) [] λzs=>⟨.obj self 0,(self,some (.dp (id'::id2::r) e' zs (self+1) none true))::(k,none)::gone (FR x)⟩)
   |none=>none)else none
  |_=>none
 |_,_=>none
def ADM(σ:SSo):SV->Bool
 | .obj k _=>match σ k with
  |some (.dp (_::_::_) _ _ _ _ _)=>true
  |_=>false
 |_=>false
def RK(σ:SSo)(self n:Nat)(ids:List Nat)(t:Ty)(x:SV):Option OpRes:=match ids with
 |id::id2::r=>match undeep' n t with
  | some u=>bif (E7 (id::id2::r) u).same t then (match LD σ (id2::r) u x with
   |some y=>some (.pure ⟨.obj self 0,(self,some (.dp (id::id2::r) u ([y]:List (E7 (id2::r) u).T) (self+1) none true))::gone (FR x)⟩)
   |none=>none)else none
  |none=>none
 |_=>none
where undeep':Nat->Ty->Option Ty
 |0,t=>some t
 |n+1,.slice t=>undeep' n t
 |_,_=>none
def dF(σ:SSo)(n:Nat)(p c:SV):Option (List (Nat×Option Obj)):=match p,c with
 | .elem k _ _ _ _,.obj j _=>match σ k with
  | some (.dp (id::id2::r) e xs gk (some [i]) true)=>bif Nat.beq gk (j+2) then (match σ j with
   | some (.dp ids e' y _ none true)=>bif OT ids (id2::r) then (match Ty.cast? (E7 ids e') (E7 (id2::r) e) y with
    |some y=>some [(k,some (.dp (id::id2::r) e ((show List (E7 (id2::r) e).T from xs).set i y) n none true)),(j,none)]
    |none=>none)else none
   |_=>none)else none
  |_=>none
 |_,_=>none
def dG(self k id:Nat)(e:Ty)(xs:List e.T)(lo hi:Option SV):Option OpRes:=match PT lo 0,PT hi xs.length with
 |some l,some h=>some (.may (List e.T) (cut? xs l h) [] λy=>⟨.obj self 0,[(self,some (.dp [id] e y (self+1) none true)),(k,none)]⟩)
 |_,_=>none
def XH(σ:SSo)(self:Nat)(t:Ty)(x:SV)(lo hi:Option SV):Option OpRes:=
 match t,x with
 | .slice e,.obj k g=>match σ k with
  |some (.dp [id] e' xs _ none true)=>bif Nat.beq g 0&&e'.same e then dG self k id e' xs lo hi else none
  |some (.sl id e' xs g' true)=>bif Nat.beq g 0&&(Nat.beq g' 0&&e'.same e)then dG self k id e' xs lo hi else none
  |_=>none
 |_,_=>none
def XI(σ:SSo)(self:Nat)(t:Ty)(a:SV):Option OpRes:=match a with
 | .elem k g i [] _=>match σ k with
  |some (.dp (id::id2::r) e xs gk none true)=>bif Nat.beq g 0&&(E7 (id2::r) e).same t then
   some (.pure ⟨.obj self 0,[(self,some (.dp (id2::r) e ((show List (E7 (id2::r) e).T from xs).getD i (E7 (id2::r) e).dflt) (self+1) none true)),(k,some (.dp (id::id2::r) e xs (self+2) (some [i]) true))]⟩)else none
  |_=>none
 |_=>none
def oK(i:Nat):Option (List Nat)->Bool
 |none=>true
 |some [j]=>Nat.beq j i
 |some _=>false
def dH(σ:SSo)(self:Nat)(t:Ty)(v a:SV):Option OpRes:=match a with
 | .elem k g i [] _=>match σ k with
  | some (.dp (id::id2::r) e xs gk h true)=>bif Nat.beq g 0&&((E7 (id2::r) e).same t && !(FE k (FR v))) then (match LD σ (id2::r) e v with
   |some y=>some (.may Unit (bif oK i h then some ()else none) () λ_=>⟨.undef,(k,some (.dp (id::id2::r) e ((show List (E7 (id2::r) e).T from xs).set i y) (self+1) none true))::gone (FR v)⟩)
   |none=>none)else none
  |_=>none
 |_=>none
def LE(el:Nat->Nat):Nat->Nat->List Nat
 |0,_=>[]
 |n+1,t=>el t::LE el n (el t)
def A1R:Nat->Ty->Option Ty
 |0,t=>some t
 |n+1,.slice t=>A1R n t
 |_,_=>none
def oL(σ:SSo)(w:Bool)(self id:Nat)(t t':Ty)(s x:SV):Option OpRes:=
 match t,t',x with
 | .slice (.int .u8),.str,.val .str ys=>XG σ w self id (.slice (.int .u8)) s (.val (.slice (.int .u8)) (FL ys))
 |_,_,_=>none
def OW(a b:Int):Int:=bif decide (b<a)then b else a
def XJ(a b:Int):Int:=bif decide (a<b)then b else a
def I7:(ps:List Sh)->List SV->List Mk->List (Nat×Option Obj)
 | .box _::ps,.ptr k _ _::vs,m::ms=>(match m.obs with|(_,o)::r=>(k,o)::r|[]=>[])++I7 ps vs ms
 | .io _ _::ps,.obj k _::vs,m::ms=>(match m.obs with|(_,o)::r=>(k,o)::r|[]=>[])++I7 ps vs ms
 | .io _ _::ps,_::vs,_::ms=>I7 ps vs ms
 | .bld _ false::ps,.ptr k _ _::vs,m::ms=>(match m.obs with|(_,some (.box t (.pr _ y) w))::r=>(k,some (.box t (.pr (.slf k) y) w))::r|_=>[])++I7 ps vs ms
 |_::ps,_::vs,ms=>I7 ps vs ms
 |_,_,_=>[]
def Ty.lit:Ty->Bool
 | .bool=>true
 | .int _=>true
 | .str=>true
 |_=>false
def XK:List Sh->Bool
 |[]=>true
 | .val t::r=>t.lit&&XK r
 |_=>false
def XL(σ:SSo)(k g:Nat)(t:Ty):Option t.T:=
 match σ k with
 |some (.sl _ e xs g' _)=>if Nat.beq g g' then Ty.cast? (.slice e) t xs else none
 |some (.mp a b es _)=>if Nat.beq g 0 then Ty.cast? (.map a b) t es else none
 |some (.dp (i::r) e x _ h w)=>if Nat.beq g 0&&(!w||h.isNone)then Ty.cast? (E7 (i::r) e) t x else none
 |_=>none
def SV.asLR(σ:SSo)(t:Ty):SV->Option t.T
 | .obj k g=>XL σ k g t
 |s=>s.asC σ t
def SV.asCR(σ:SSo):(t:Ty)->SV->Option t.T
 | .prod a b=>λs=>match s with
  | .pr x y=>match SV.asCR σ a x,SV.asCR σ b y with
   |some u,some v=>some (u,v)
   |_,_=>none
  |s=>s.asC σ (.prod a b)
 | .agg p=>λs=>match s with
  | .val u x=>MW u p x
  |s=>SV.asCR σ p s
 | .unit=>SV.asLR σ .unit
 | .bool=>SV.asLR σ .bool
 | .int k=>SV.asLR σ (.int k)
 | .str=>SV.asLR σ .str
 | .slice e=>SV.asLR σ (.slice e)
 | .arr n e=>SV.asLR σ (.arr n e)
 | .ptr e=>SV.asLR σ (.ptr e)
 | .map k v=>SV.asLR σ (.map k v)
 | .inil=>SV.asLR σ .inil
 | .ialt i t r=>SV.asLR σ (.ialt i t r)
 | .self=>SV.asLR σ .self
 | .opq=>SV.asLR σ .opq
 | .fnc d c=>SV.asLR σ (.fnc d c)
def oM(σ:SSo)(t:Ty)(v:SV):Option t.T:=match t,v with
 | .ptr e,.ptr k [] _=>match σ k with
  |some (.box t' c true)=>bif t'.same e.bare then(c.asCR σ e).map some else none
  |_=>none
 |t,.obj k g=>XL σ k g t
 |t,.bt u c=>bif u.same t then c.asCR σ t else none
 |t,v=>v.asV σ t
def dI(σ:SSo):(s:Sh)->SV->Option s.T
 | .val t,v=>oM σ t v
 |_,_=>none
def TZ(σ:SSo):(l:List Sh)->List SV->Option (TupR l)
 |[],[]=>some ()
 |[a],[v]=>dI σ a v
 |a::b::r,v::w=>match dI σ a v,TZ σ (b::r) w with
  |some x,some y=>some (x,y)
  |_,_=>none
 |_,_=>none
def oN(σ:SSo)(self:Nat)(sp:FSpec)(args:List SV)(r:TupR (sp.rs++sp.ps.filter F3)):Upd:=
 let l:=FB (sp.rs++sp.ps.filter F3) r self
 let k:=sp.rs.length
 let rs:=l.take k
 ⟨match rs with
  |[m]=>m.sv
  |_=>.tup (SV.ofList (rs.map (·.sv))),rs.flatMap (·.obs)++(I7 sp.ps args (l.drop k)++gone (IH σ sp.ps args))⟩
def oO(fs:Nat->Option FSpec)(σ:SSo)(self:Nat)(f:Nat)(args:List SV):Option OpRes:=
 match fs f with
 |some sp=>match bif Nat.ble (GF (sp.rs++sp.ps.filter F3)) 8 then KJ fs σ sp.ps args else none with
  |some v=>some (.may (TupR (sp.rs++sp.ps.filter F3)) (sp.F v) (TupR.dflt _) (oN σ self sp args))
  |none=>match bif XK sp.rs then TZ σ sp.ps args else none with
   | some v=>some (.may (TupR (sp.rs++sp.ps.filter F3)) (sp.F v) (TupR.dflt _) λr =>
    let rs:=(FB (sp.rs++sp.ps.filter F3) r self).take sp.rs.length
    ⟨match rs with
     |[m]=>m.sv
     |_=>.tup (SV.ofList (rs.map (·.sv))),[]⟩)
   |none=>none
 |none=>none
def oP(ks:Nat->Option KSpec)(fs:Nat->Option FSpec)(σ:SSo)(self:Nat)(f:Nat)(args:List SV):Option OpRes:=match ks f with
 | some s=>bif Nat.beq args.length s.n&&Nat.ble (GF (s.sp.rs++s.sp.ps.filter F3)) 8 then (match X7 false σ (λt=>args.getD t .undef) s.kx with
  |some ps=>match KJ fs σ s.sp.ps (args++ps)with
   |some v=>some (.may (TupR (s.sp.rs++s.sp.ps.filter F3)) (s.sp.F v) (TupR.dflt _) (oN σ self s.sp (args++ps)))
   |none=>none
  |none=>none)else none
 |none=>none
def XM(σ:SSo):(d:Ty)->List SV->Option d.T
 | .prod a b,s::r=>match s.asV σ a,XM σ b r with
  |some x,some y=>some (x,y)
  |_,_=>none
 |t,[s]=>s.asV σ t
 |_,_=>none
def oQ(dr:Bool)(fs:Nat->Option FSpec)(ks:Nat->Option KSpec)(σ:SSo)(self:Nat)(fv:SV)(args:List SV):Option OpRes:=
 match fv with
 | .fn f caps=>bif MX caps then (match oP ks fs σ self f (args++caps.list) with
  |some r=>some r
  |none=>oO fs σ self f (args++caps.list))else none
 | .hof nd d c F=>match(bif !dr||nd then XM σ d args else none)with
  |some x=>some (.may c.T (F x) c.dflt λy=>⟨cF c y,[]⟩)
  |none=>none
 | .val (.fnc d c) y=>match(bif !dr then XM σ d args else none)with
  |some x=>some (.may c.T (Option.bind (show Option (d.T->Option c.T)from y) λF=>F x) c.dflt λy=>⟨cF c y,[]⟩)
  |none=>none
 |_=>none
def dJ(fs:Nat→Option FSpec)(mt:Nat→Option Nat)(c:Ty):(u:Ty)→Option (u.T→Option c.T)
 | .inil=>some λ_=>none
 | .ialt id t r=>match mt id with
  |some f=>bif NW t then none else match OS false fs (λ_=>none) t c (.fn f .snil),dJ fs mt c r with
   |some F,some G=>some λx=>Sum.casesOn (motive:=λ_=>Option c.T) (show Sum t.T r.T from x) F G
   |_,_=>none
  |none=>none
 |_=>none
def oR(fs:Nat→Option FSpec)(mt:String→Nat→Option Nat)(c:Ty)(m:String):SV→Option OpRes
 | .val u x=>match dJ fs (mt m) c u with
  |some F=>some (.may c.T (F x) c.dflt λy=>⟨cF c y,[]⟩)
  |none=>none
 |_=>none
def SV.unagg:SV->SV
 | .val (.agg p) x=>.val p (show p.T from x)
 |s=>s
def oS(t:Ty):SV->Option OpRes
 | .val (.int _) n=>match t with
  | .int k=>some (.v (.val (.int k) (k.wrap (show Int from n))))
  |_=>none
 | .val .str s=>match t with
  | .str=>some (.v (.val .str s))
  |_=>none
 |_=>none
def PU(n:Int):List UInt8:=(Utf8.encode n).data.toList
def oT(σ:SSo)(st t:Ty)(x:SV):Option OpRes:=
 match t with
 | .slice (.int .u8)=>match x with
  | .val .str s=>some (.v (.val (.slice (.int .u8)) (FL s)))
  |_=>none
 | .str=>match x with
  | .val .str s=>some (.v (.val .str s))
  | .val (.int _) n=>some (.v (.val .str (PU (show Int from n))))
  |s=>match bif st.same (.slice (.int .u8))then s.asV σ (.slice (.int .u8))else none with
   |some xs=>some (.may DX (cat? [] (HA xs)) [] λy=>⟨.val .str y,[]⟩)
   |none=>none
 |t=>oS t x
def oU(self el:Nat)(t:Ty)(x:SV):Option OpRes:=
 match t,x with
 | .slice (.int .u8),.val .str s=>some (.pure ⟨.obj self 0,[(self,some (.sl el (.int .u8) (FL s) 0 true))]⟩)
 |_,_=>none
def mks? {α:Type}(B:Nat)(l c:Int)(z:α):Option (List α):=
 bif decide (0<=l)&&(decide (l<=c)&&decide (c.toNat*B<=70368744177664))then some (List.replicate l.toNat z)else none
def T_(self n:Nat)(ids:List Nat)(t:Ty)(a b:Int):Option OpRes:=match ids with
 |id::id2::r=>match A1R n t with
  |some u=>bif (E7 (id::id2::r) u).same t then
   some (.may (List (E7 (id2::r) u).T) (mks? 24 a b (E7 (id2::r) u).dflt) [] λzs=>⟨.obj self 0,[(self,some (.dp (id::id2::r) u zs (self+1) none true))]⟩)else none
  |none=>none
 |_=>none
def oV(a t:Ty):Option (a.T->t.T):=if h:a.same t=true then some (λx=>Ty.same_eq h▸x)else none
def U0(id:Nat)(t:Ty):(u:Ty)->Option (u.T->Option t.T)
 | .ialt j a r=>match U0 id t r with
  | some f=>bif Nat.beq id j then (match oV a t with
   |some g=>some (λx=>Sum.casesOn (motive:=λ_=>Option t.T) x (λy=>some (g y)) f)
   |none=>none)
   else some (λx=>Sum.casesOn (motive:=λ_=>Option t.T) x (λ_=>none) f)
  |none=>none
 | .inil=>some (λ_=>none)
 |_=>none
def oW(σ:SSo)(t:Ty)(s:SV):Option OpRes:=match s with
 | .val (.ptr e) y=>bif e.same t then some (.may e.T (show Option e.T from y) e.dflt λz=>⟨.val e z,[]⟩)else none
 |s=>(loadAt σ t s).map .v
def oX(ty:Ty)(i:Nat):Option Ty:=match ty with
 | .agg p=>p.sub (GJ p.fields i)
 | .arr _ e=>some e
 |_=>none
def XN(fs:Nat->Option FSpec)(σ:SSo)(t:Option Ty)(s:SV):SV:=match t,s with
 |some (.fnc d c),.fn f cs=>match OS false fs σ d c (.fn f cs)with
  |some F=>.val (.fnc d c) (some F:Option (d.T->Option c.T))
  |none=>.fn f cs
 |_,s=>s
def U1(E:Env)(t:Nat)(ty:Ty):Bool:=match ty with
 | .map k _=>E.eq (E.ky t)&&(match E.ty (E.ky t)with|some k'=>k'.same k|none=>false)
 |_=>false
def oY(E:Env)(ρ:Operand->SV)(ρt ρf:Operand->SV)(σ:SSo)(self:Nat)(o:Oper):Option OpRes:=
 let wf:Bool:=match o.dst with|some d=>E.wr d|none=>false
 let dd:Nat:=match o.dst with|some d=>E.dp d|none=>0
 match o.op with
 | .move x=>some (.v (ρ x))
 | .assign x=>some (.v (ρ x))
 | .pick c a b=>o6 (ρ c) (ρt a) (ρf b)
 | .alloc t=>match E.ty t with
  |some ty=>some (.pure ⟨.ptr self [] ty.bare,[(self,some (.box ty.bare (H7 ty.bare) true))]⟩)
  |none=>none
 | .box t v=>match E.ty t with
  |some ty=>match TW ty (ρ v)with
   |some c=>some (.pure ⟨.ptr self [] ty.bare,[(self,some (.box ty.bare c.unagg true))]⟩)
   |none=>none
  |none=>none
 | .build t ps=>match E.ty t with
  |some ty=>bif wf then XB σ ty (ps.toList.map λp=>(p.1,ρ p.2))else c_ σ ty (ps.toList.map λp=>(p.1,XN E.fs σ (oX ty p.1) (ρ p.2)))
  |none=>none
 | .buildSlice t len ps=>match bif wf&&Nat.beq len 1 then(match ps.toList,E.ty t with|[(0,x)],some ty=>RK σ self dd (LE E.el dd t) ty (ρ x)|_,_=>none)else none with
  |some r=>some r
  |none=>match E.ty t with
   |some (.slice e)=>match bif Nat.beq len 0 then(match ps.toList with|[]=>some ([]:List e.T)|_=>none)else bif Nat.ble (len*e.sz) 16777216 then PS σ e (ps.toList.map λp=>(p.1,ρ p.2)) (List.replicate len e.dflt)else none with
    |some xs=>some (.pure ⟨bif Nat.beq len 0&&Nat.beq dd 1 then .em e else .obj self 0,[(self,some (.sl (E.el t) e xs 0 wf))]⟩)
    |none=>none
   |_=>none
 | .insert t m k v=>match E.ty t with
  |some ty=>dD σ (U1 E t ty) ty (ρ m) (ρ k) (ρ v)
  |none=>none
 | .mapUpdate t m k v=>match E.ty t with
  |some ty=>bif A1Q σ (ρ m)then oJ σ self ty (ρ m) (ρ k) (ρ v)else dD σ (U1 E t ty) ty (ρ m) (ρ k) (ρ v)
  |none=>none
 | .load t a=>match E.ty t with
  | some ty=>bif wf then (match XI σ self ty (ρ a) with
   |some r=>some r
   |none=>(TX σ ty (ρ a)).map .v)else oW σ ty (ρ a)
  |none=>none
 | .store t a v=>match E.ty t with
  | some ty=>(match dH σ self ty (ρ v) (ρ a) with
   |some r=>some r
   |none=>(storeAt σ ty (ρ v) (ρ a)).map λp=>.pure ⟨.undef,[(p.1,some p.2)]⟩)
  |none=>none
 | .nilCheck x=>match ρ x with
  | .ptr k p u=>some (.v (.ptr k p u))
  | .ptri k p i q u=>some (.v (.ptri k p i q u))
  | .elem k g i q u=>some (.v (.elem k g i q u))
  | .ref t y=>some (.v (.ref t y))
  | .val (.ptr e) y=>some (.may e.T (show Option e.T from y) e.dflt λz=>⟨.ref e z,[]⟩)
  | .fn f c=>some (.v (.fn f c))
  | .hof nd d c F=>some (.v (.hof nd d c F))
  | .val (.fnc d c) y=>some (.may (d.T->Option c.T) (show Option (d.T->Option c.T)from y) (λ_=>none) λF=>⟨.hof false d c F,[]⟩)
  |_=>none
 | .binOp op t x y _=>match o4 op (E.ty t) (ρ x) (ρ y)with
  |some r=>some r
  |none=>match A1J (E.ty t) (E.eq t) op (ρ x) (ρ y)with
  |some r=>some r
  |none=>bif (match ρ x with| .val .bool _=>(match E.ty t with|some .bool=>true|_=>false)|_=>true)then cZ op (ρ x) (ρ y)else none
 | .unOp op _ x=>o5 op (ρ x)
 | .convert st t x=>match E.ty st,E.ty t with
  |some sy,some ty=>bif wf then oU self (E.el t) ty (ρ x)else oT σ sy ty (ρ x)
  |_,_=>none
 | .makeInterface t x=>match E.ty t,E.ty o.type with
  |some a,some u=>bif a.isIface then none else match(ρ x).asV σ a with
   |some y=>(O1 t a y u).map λz=>.v (.val u z)
   |none=>none
  |_,_=>none
 | .makeFunc (.func f) first caps=>match first.toList with
  | []=>bif wf then (match E.ty o.type with
   |some (.fnc d c)=>(OS false E.fs σ d c (.fn f (SV.ofList (caps.toList.map ρ)))).map λF=>.v (.val (.fnc d c) (some F:Option (d.T->Option c.T)))
   |_=>none)else some (.v (.fn f (SV.ofList (caps.toList.map ρ))))
  |_=>none
 | .makeMap t h=>match E.ty t with
  |some (.map k v)=>bif (match h with|none=>true|some x=>(match ρ x with| .val (.int _) _=>true|_=>false))then(bif wf then A1P (E.el t) self k v else some (.pure ⟨.obj self 0,[(self,some (.mp k v [] true))]⟩))else none
  |_=>none
 | .makeSlice t l c=>match E.ty t,ρ l,ρ c with
  |some (.slice e),.val (.int .i64) a,.val (.int .i64) b=>
   match T_ self dd (LE E.el dd t) (.slice e) a b with
   |some r=>some r
   |none=>some (.may (List e.T) (mks? (24*e.sz) a b e.dflt) [] λzs=>⟨.obj self 0,[(self,some (.sl (E.el t) e zs 0 wf))]⟩)
  |_,_,_=>none
 | .slice t x lo hi none=>match E.ty t with
  | some ty=>(match bif wf then XH σ self ty (ρ x) (lo.map ρ) (hi.map ρ) else none with
   |some r=>some r
   |none=>dA σ ty (ρ x) (lo.map ρ) (hi.map ρ))
  |none=>none
 | .fieldAddr t x f=>match E.ty t with
  | some (.agg p)=>bif Nat.blt f p.fields then (match ρ x with
   | .val (.ptr e) y=>bif (N2 p f (.ref e e.dflt)).isSome then some (.may e.T (show Option e.T from y) e.dflt λz=>⟨(N2 p f (.ref e z)).getD .undef,[]⟩)else none
   |s=>(N2 p f s).map .v)else none
  |_=>none
 | .field t x f=>match E.ty t with
  |some (.agg p)=>bif Nat.blt f p.fields then oI p f (ρ x)else none
  |_=>none
 | .indexAddr t x i=>match E.ty t,ρ i with
  |some ty,.val (.int _) n=>oA σ ty n (ρ x)
  |_,_=>none
 | .index t x i=>match E.ty t,ρ i with
  |some ty,.val (.int _) n=>oB ty n (ρ x)
  |_,_=>none
 | .lookup t m k ok=>match E.ty t with
  |some ty=>bif wf && !ok then dC σ self ty (ρ m) (ρ k)else dB σ (U1 E t ty) ty ok (ρ m) (ρ k)
  |none=>none
 | .extract x i=>oH (ρ x) i
 | .typeAssert x _ t true=>match E.ty t,ρ x with
  |some ty,.val u y=>bif ty.isIface then none else match U0 t ty u with
   |some f=>some (.v (.tup (.scons (.val ty ((f y).getD ty.dflt)) (.scons (.val .bool (f y).isSome) .snil))))
   |none=>none
  |_,_=>none
 | .call {callee:=.builtin b,args:=as,argTypes:=ts}=>match b,as.toList with
  | .len,[x]=>match ts.toList with
   |[t]=>match E.ty t with
    |some ty=>oD σ ty (ρ x)
    |none=>none
   |_=>none
  | .append,[s,x]=>match ts.toList with
   | [t,t']=>bif Nat.beq t t' then (match E.ty t with
    | some ty=>(match dE σ self (E.el t) ty (ρ s) (ρ x) with
     |some r=>some r
     |none=>XG σ wf self (E.el t) ty (ρ s) (ρ x))
    |none=>none)else(match E.ty t,E.ty t' with
    |some ty,some ty'=>oL σ wf self (E.el t) ty ty' (ρ s) (ρ x)
    |_,_=>none)
   |_=>none
  | .min,[x,y]=>match ρ x,ρ y with
   | .val (.int k) a,.val (.int l) c=>bif NV k l then some (.v (.val (.int k) (OW a c)))else none
   |_,_=>none
  | .max,[x,y]=>match ρ x,ρ y with
   | .val (.int k) a,.val (.int l) c=>bif NV k l then some (.v (.val (.int k) (XJ a c)))else none
   |_,_=>none
  |_,_=>none
 | .call {callee:=.value f,args:=as,argTypes:=_}=>oQ E.dr E.fs E.ks σ self (ρ f) (as.toList.map ρ)
 | .call {callee:=.invoke r m,args:=as,argTypes:=_}=>match as.toList,E.ty o.type with
  |[],some c=>oR E.fs E.mt c m (ρ r)
  |_,_=>none
 |_=>none
def hkP(σ:SSo)(s:SV):List Nat:=match s with
 | .ptr k p _=>match σ k with
  |some (.box _ c _)=>match c.getAt p with
   |some x=>WW σ x
   |none=>[]
  |_=>[]
 |_=>[]
def dK(E:Env)(ρ:Operand->SV)(σ:SSo)(o:Oper):List Nat:=match o.op with
 | .build _ ps=>bif (match o.dst with|some d=>E.wr d|none=>false)then []else ps.toList.flatMap λp=>hk σ (ρ p.2)
 | .buildSlice _ _ ps=>bif (match o.dst with|some d=>E.wr d&&Nat.ble 2 (E.dp d)|none=>false)then []else ps.toList.flatMap λp=>hk σ (ρ p.2)
 | .insert _ _ _ v=>hk σ (ρ v)
 | .mapUpdate _ _ _ v=>hk σ (ρ v)
 | .makeInterface _ x=>hk σ (ρ x)
 | .makeFunc _ _ caps=>bif (match o.dst with|some d=>E.wr d|none=>false)then(caps.toList.map ρ).flatMap (WX σ)else []
 | .convert _ _ x=>hk σ (ρ x)
 | .load t x=>match E.ty t with
  |some (.agg _)=>bif (match o.dst with|some d=>E.wr d|none=>false)then []else hkP σ (ρ x)
  |_=>[]
 | .indexAddr t x _=>match E.ty t with
  |some (.arr _ (.arr _ _))=>match ρ x with
   | .ptr k _ _=>match σ k with
    |some (.box _ _ true)=>[k]
    |_=>[]
   |_=>[]
  |_=>[]
 | .slice t x _ _ _=>match E.ty t with
  |some (.arr _ _)=>match ρ x with
   | .ptr k _ _=>match σ k with
    |some (.box _ _ true)=>[k]
    |_=>[]
   |_=>[]
  |_=>[]
 | .call {callee:=.builtin .append,args:=as,argTypes:=_}=>match as.toList with
  |[s,x]=>bif ADM σ (ρ s)then []else hk σ (ρ x)
  |_=>[]
 | .call {callee:=.value f,args:=as,argTypes:=_}=>match ρ f with
  | .fn n caps=>match E.ks n with
   |some s=>frzX σ s (as.toList.map ρ++caps.list)
   |none=>match E.fs n with
   |some sp=>bif (match o.dst with|some d=>E.wr d|none=>false)then nQ σ sp.ps (as.toList.map ρ++caps.list)else cU σ sp.ps (as.toList.map ρ++caps.list)
   |none=>[]
  | .hof _ _ _ _=>as.toList.flatMap λx=>hk σ (ρ x)
  | .val (.fnc _ _) _=>as.toList.flatMap λx=>hk σ (ρ x)
  |_=>[]
 |_=>[]
def OpRes.also(fz:List (Nat×Option Obj)):OpRes->OpRes
 | .pure u=>.pure ⟨u.sv,u.wr++fz⟩
 | .may α m d u=>.may α m d λx=>⟨(u x).sv,(u x).wr++fz⟩
def U2(E:Env)(ρ ρt ρf:Operand->SV)(σ:SSo)(self:Nat)(o:Oper):Option OpRes:=
 match oY E ρ ρt ρf (EN σ (M_ σ (dK E ρ σ o))) self o with
 |some r=>some (r.also (M_ σ (dK E ρ σ o)))
 |none=>none
def PV(all:Array Oper)(sl:Nat->SV)(o:Oper):Option (List (Nat×Bool)×Bool):=match o.guard with
 |none=>some ([],true)
 |some (j,w)=>match all[j]? with
  |some p=>match p.dst with
   |some t=>match sl t with
    | .val .bool b=>some ([(t,w)],bif w then b else !b)
    | .grd tk g (.val .bool b)=>some ((t,w)::tk,g&&(bif w then b else !b))
    |_=>none
   |none=>none
  |none=>none
def XO(t:Nat×Bool):List (Nat×Bool)->Bool
 |[]=>false
 |u::r=>(Nat.beq t.1 u.1&&(bif t.2 then u.2 else !u.2))||XO t r
def SV.strip(tk:List (Nat×Bool)):SV->SV
 | .grd tk' _ s=>bif tk'.all (XO · tk)then s else .undef
 |s=>s
def PW(c:Operand)(w:Bool)(tk:List (Nat×Bool)):List (Nat×Bool):=match c with
 | .tmp t=>(t,w)::tk
 |_=>tk
def ADN{α:Type}(tk:List (Nat×Bool))(g:Bool)(m:Option α)(d:α):Option α:=match tk with
 |[]=>m
 |_=>bif g then m else some d
def OX(sl:Nat->SV)(d:Option Nat)(s:SV):Nat->SV:=match d with
 |none=>sl
 |some d=>λt=>bif Nat.beq t d then s else sl t
def JO(self k:Nat):Bool:=Nat.ble self k&&Nat.blt k (self+8)
def SV.names:SV->List Nat
 | .obj k _=>[k]| .ptr k _ _=>[k]| .ptri k _ _ _ _=>[k]| .elem k _ _ _ _=>[k]
 | .fn _ c=>c.names| .pr a b=>a.names++b.names| .grd _ _ s=>s.names| .bt _ c=>c.names| .slf k=>[k]| .scons a b=>a.names++b.names
 |_=>[]
def dL(σ:SSo):Nat->SV->List Nat
 |0,s=>s.names
 |n+1,s=>s.names++s.names.flatMap λk=>match σ k with
  |some (.box _ c _)=>dL σ n c
  |some (.kn _ c)=>dL σ n c
  |_=>[]
def U3(ρ:Operand->SV)(σ:SSo)(op:Op):List Nat:=match op with
 | .move _=>[]| .assign _=>[]| .fieldAddr _ _ _=>[]| .nilCheck _=>[]| .extract _ _=>[]| .alloc _=>[]| .makeMap _ _=>[]
 | .load _ x=>match ρ x with
  | .ptr k p _=>k::(match σ k with
   |some (.box _ c _)=>match c.getAt p with
    |some (.obj _ _)=>[]
    |some y=>y.names
    |none=>[]
   |_=>[])
  |s=>dL σ 2 s
 |op=>op.operands.toList.flatMap λx=>dL σ 2 (ρ x)
def dM(b:Array Nat)(i j:Nat):Bool:=bif Nat.blt i j then(b.getD j 0).testBit i else(b.getD i 0).testBit j
def XP(all:Array Oper)(o:Oper):List Nat:=
 (o.op.operands.toList.filterMap fun | .tmp t=>some t | _=>none)++(match o.guard with
  |some (j,_)=>match all[j]? with
   |some p=>p.dst.toList
   |none=>[]
  |none=>[])++o.dst.toList
def dN:List Nat->List Nat->Bool
 |[],_=>true
 |k::l,m=>!FE k m&&dN l m
def XQ(all:Array Oper)(cl:List (List Nat×List Nat)):Bool:=
 let b:=Region.before all
 let n:=all.size
 ((List.range n).all λi=>(all.getD i default).after.toList.all λe=>!(Region.binds .any e)||Nat.blt e.on i) &&
 (List.range n).all λi=>(List.range n).all λj=>Nat.beq i j||
  (((match (all.getD i default).dst with | some t=>!(XP all (all.getD j default)).contains t | none=>true)||dM b i j) &&
   (dN (cl.getD i ([],[])).1 (cl.getD j ([],[])).2||dM b i j))
def GG(all:Array Oper)(draw:Bool)(n0 i:Nat)(F:List Nat)(σ:SSo):SSo:=
 bif draw then λk=>bif FE k F&&(Nat.blt k n0||((Region.before all).getD i 0).testBit ((k-n0) / 8))then σ k else none
 else σ
def Upd.far(self:Nat)(u:Upd):List Nat:=(u.wr.filter λp=>!JO self p.1).map (·.1)
def RL(σ:SSo)(self:Nat)(u:Upd):Bool:=u.wr.all λp=>JO self p.1||(σ p.1).isSome
def LF(all:Array Oper):Bool:=all.toList.any λo=>match o.guard with|some _=>true|none=>false
def XR(sl:Nat->SV):Nat->SV:=λt=>match sl t with
 | .grd _ _ _=>.undef
 |s=>s
def dO(all:Array Oper):List Nat:=all.toList.filterMap (·.dst)
section
variable{Ω:Type}
def calm(tk:List (Nat×Bool))(u:Upd):Bool:=match tk with
 |[]=>true
 |_=>match u.wr with
  |[]=>true
  |_=>false
def U4:List (Nat×Bool)→Bool
 |[_]=>true
 |_=>false
def oZ(draw:Bool)(tk:List (Nat×Bool))(g:Bool)(r:OpRes)(K:Upd->Option Ω):Option Ω:=match r with
 | .pure u=>bif calm tk u then K u else bif !draw&&U4 tk then(bif g then K u else K ⟨u.sv,[]⟩)else none
 | .may _ m d u=>Option.bind (ADN tk g m d) λx=>bif calm tk (u x)then K (u x)else bif !draw&&U4 tk then(bif g then K (u x)else K ⟨(u x).sv,[]⟩)else none
def PX(tk:List (Nat×Bool))(g:Bool)(s:SV):SV:=match tk with
 |[]=>s
 |tk=>.grd tk g s
def PY(E:Env)(all:Array Oper)(draw:Bool)(n0:Nat):List Oper->Nat->St->List (List Nat×List Nat)->(St->List (List Nat×List Nat)->Option Ω)->Option Ω
 |[],_,st,cl,K=>K st cl
 |o::rest,i,st,cl,K=>match PV all st.slots o with
  |none=>none
  |some (tk,g)=>
   let ρ:=λx=>(GR st.slots x).strip tk
   let c:=U3 ρ st.sto o.op
   let σ:=GG all draw n0 i c st.sto
   match U2 E ρ (match o.op with| .pick c _ _=>λx=>(GR st.slots x).strip (PW c true tk)|_=>ρ)
    (match o.op with| .pick c _ _=>λx=>(GR st.slots x).strip (PW c false tk)|_=>ρ) σ (n0+8*i) o with
   |none=>none
   |some r=>oZ draw tk g r λu=>bif RL σ (n0+8*i) u then
    PY E all draw n0 rest (i+1) {slots:=OX st.slots o.dst (PX tk g u.sv),sto:=EN st.sto u.wr,n:=st.n}
     ((u.far (n0+8*i),c)::cl) K
     else none
def XS(all:Array Oper):Bool:=(List.range all.size).all λi=>match(all.getD i default).guard with
 |some (j,_)=>Nat.blt j i
 |none=>true
def U5(E:Env):List Oper->St->St
 |[],st=>st
 |o::r,st=>match o.op,o.dst with
  | .load _ a,some d=>match bif E.wr d then dF st.sto st.n (GR st.slots a) (st.slots d)else none with
   |some u=>U5 E r {slots:=st.slots,sto:=EN st.sto u,n:=st.n+1}
   |none=>U5 E r st
  |_,_=>U5 E r st
def o_(E:Env)(ops:Array Oper)(draw:Bool)(st:St)(K:St->Option Ω):Option Ω:=
 bif LF ops && !(MY (dO ops)&&XS ops)then none else
 PY E ops draw st.n ops.toList 0 st [] λst' cl=>
  bif !draw||XQ ops cl.reverse then
   K {slots:=bif LF ops then XR st'.slots else st'.slots,sto:=st'.sto,n:=st.n+8*ops.size}
  else none
def A1S(E:Env)(ops:Array Oper)(draw:Bool)(st:St)(K:St->Option Ω):Option Ω:=o_ E ops draw st λst'=>K (U5 E ops.toList.reverse st')
def K6:Code->Nat
 | .seq a b=>K6 a+K6 b
 | .cond _ a b=>1+(K6 a+K6 b)
 | .block _ b=>K6 b
 | .loop b=>1+K6 b
 |_=>0
noncomputable def A1T(E:Env)(c:CSpec)(x:KX)(st:St)(K:Ex->St->Option Ω):Option Ω:=match bif N_ c.wrs x.kn&&O0 x then cY c.inn x st else none with
 |some vs=>match KJ E.fs (NZ st.sto c.inn.sh vs) c.inn.sh vs with
  |some v=>Option.bind (c.F v) λy=>nV (nW c.inn vs st) c.wrs (IH (NZ st.sto c.inn.sh vs) c.inn.sh vs) x c.outs y K
  |none=>none
 |none=>none
noncomputable def XT(E:Env)(c:CSpec)(st:St)(K:Ex->St->Option Ω):Option Ω:=match c.kx with
 |some x=>A1T E c x st K
 |none=>match bif RH c.al st.slots then NY E.fs c.inn (K5 c.inn st)else none with
 |some v=>match c.nd with
  |none=>Option.bind (c.F v) λx=>WZ (K5 c.inn st) c.wrs (IH (K5 c.inn st).sto c.inn.sh (c.inn.tm.map st.slots)) c.outs x λe st'=>K e (WY c.al c.wrs st')
  |some d=>nN (d.S v) λo=>Option.bind (d.F v o) λx=>WZ (K5 c.inn st) c.wrs (IH (K5 c.inn st).sto c.inn.sh (c.inn.tm.map st.slots)) c.outs x λe st'=>K e (WY c.al c.wrs st')
 |none=>none
def pA(E:Env):Code->Option CSpec
 | .region id _ _=>E.cut (1000000+id)
 |_=>none
noncomputable def KL(E:Env):Code->Nat->St->(Ex->St->Option Ω)->Option Ω
 | .skip,_,st,K=>K .normal st
 | .region _ ops draw,_,st,K=>A1S E ops draw st (K .normal)
 | .seq a b,n,st,K=>match pA E a with
  |some s=>XT E s st K
  |none=>KL E a n st λe st'=>match e with
   | .normal=>KL E b (n+K6 a) st' K
   |e=>K e st'
 | .cond c a b,n,st,K=>match E.cut n with
  |some s=>XT E s st K
  |none=>match GR st.slots c with
   | .val .bool t=>cond t (KL E a (n+1) st K) (KL E b (n+1+K6 a) st K)
   |_=>none
 | .block id b,n,st,K=>KL E b n st λe st'=>match e with
  | .exit i=>bif Nat.beq i id then K .normal st' else K (.exit i) st'
  |e=>K e st'
 | .loop _,n,st,K=>match E.cut n with
  |some s=>XT E s st K
  |none=>none
 | .exit id,_,st,K=>K (.exit id) st
 | .ret,_,st,K=>K .ret st
 |_,_,_,_=>none
end
def outPut(fs:Nat->Option FSpec):(l:List (Ex×Kp))->Ex->St->Option (G_ l)
 |[],_,_=>none
 |[o],e,st=>bif sameEx o.1 e then NY fs o.2 (K5 o.2 st)else none
 |o::p::r,e,st=>bif sameEx o.1 e then(NY fs o.2 (K5 o.2 st)).map Sum.inl else(outPut fs (p::r) e st).map Sum.inr
 where sameEx:Ex->Ex->Bool
 | .normal,.normal=>true
 | .exit i,.exit j=>Nat.beq i j
 | .ret,.ret=>true
 |_,_=>false
noncomputable def pB(E:Env)(body:Code)(n:Nat)(al:List (Nat×Nat))(inn:Kp)(outs:List (Ex×Kp))(next:TupR inn.sh->Option (G_ outs))(v:TupR inn.sh):Option (G_ outs):=
 KL E body n (TM al inn v) λe st=>match e with
  | .normal=>match bif RH al st.slots then NY E.fs inn (K5 inn st)else none with
   |some w=>next w
   |none=>none
  |e=>outPut E.fs outs e st
def RM(fs:Nat->Option FSpec)(x:KX):(l:List (Ex×Kp))->Ex->St->Option (G_ l)
 |[],_,_=>none
 |[o],e,st=>bif outPut.sameEx o.1 e then RJ fs o.2 x st else none
 |o::p::r,e,st=>bif outPut.sameEx o.1 e then(RJ fs o.2 x st).map Sum.inl else(RM fs x (p::r) e st).map Sum.inr
noncomputable def ADO(E:Env)(body:Code)(n:Nat)(x:KX)(inn:Kp)(outs:List (Ex×Kp))(next:TupR inn.sh->Option (G_ outs))(v:TupR inn.sh):Option (G_ outs):=
 KL E body n (TT inn x v) λe st=>match e with
  | .normal=>match RJ E.fs inn x st with
   |some w=>next w
   |none=>none
  |e=>RM E.fs x outs e st
noncomputable def dP(E:Env)(c:Operand)(a b:Code)(n:Nat)(al:List (Nat×Nat))(inn:Kp)(outs:List (Ex×Kp))(v:TupR inn.sh):Option (G_ outs):=
 match GR (TM al inn v).slots c with
 | .val .bool t=>cond t (KL E a (n+1) (TM al inn v) (outPut E.fs outs)) (KL E b (n+1+K6 a) (TM al inn v) (outPut E.fs outs))
 |_=>none
def O2(ty:Nat->Option Ty)(wr:Nat->Bool)(st:St):List ResultVar->Option (List SV)
 |[]=>some []
 | .tmp t::r=>match O2 ty wr st r with
  |some l=>some (st.slots t::l)
  |none=>none
 | .cell a t::r=>match ty t with
  |some u=>match bif wr a then TX st.sto u (st.slots a)else loadAt st.sto u (st.slots a)with
   |some s=>match O2 ty wr st r with
    |some l=>some (s::l)
    |none=>none
   |none=>none
  |none=>none
def HB:List Sh->List SV->List SV
 | .box _::ps,v::vs=>v::HB ps vs
 | .io _ _::ps,v::vs=>v::HB ps vs
 | .bld _ false::ps,v::vs=>v::HB ps vs
 |_::ps,_::vs=>HB ps vs
 |_,_=>[]
def dQ(wr:Nat->Bool)(st:St):List ResultVar->List Nat
 |[]=>[]
 | .tmp _::r=>dQ wr st r
 | .cell a _::r=>(bif wr a then []else hkP st.sto (st.slots a))++dQ wr st r
def M2(wr:Nat->Bool)(st:St)(l:List ResultVar):St:={slots:=st.slots,sto:=EN st.sto (M_ st.sto (dQ wr st l)),n:=st.n}
noncomputable def dR(E:Env)(fn:Func)(ps rs:List Sh)(v:TupR ps):Option (TupR (rs++ps.filter F3)):=
 let k:Kp:=⟨List.range ps.length,ps⟩
 let st0:=JN k v
 let fin:St->Option (TupR (rs++ps.filter F3)):=λst0=>
  let st:=M2 E.wr st0 fn.results.toList
  match O2 E.ty E.wr st fn.results.toList with
  |some l=>KJ E.fs (NZ st.sto (rs++ps.filter F3) (l++HB ps ((List.range ps.length).map st.slots))) (rs++ps.filter F3) (l++HB ps ((List.range ps.length).map st.slots))
  |none=>none
 match fn.body with
 |some b=>KL E b 0 st0 λe st=>match e with
  | .normal=>fin st
  | .ret=>fin st
  | .exit _=>none
 |none=>none
noncomputable def A1U(E:Env)(fn:Func)(ps rs:List Sh)(n:Nat)(x:KX)(v:TupR ps):Option (TupR (rs++ps.filter F3)):=
 let k:Kp:=⟨List.range n,ps⟩
 let st0:=TT k x v
 let fin:St->Option (TupR (rs++ps.filter F3)):=λst0=>
  let st:=M2 E.wr st0 fn.results.toList
  match O2 E.ty E.wr st fn.results.toList with
  |some l=>match X9 k x st with
   |some vs=>KJ E.fs (NZ st.sto (rs++ps.filter F3) (l++HB ps vs)) (rs++ps.filter F3) (l++HB ps vs)
   |none=>none
  |none=>none
 match fn.body with
 |some b=>KL E b 0 st0 λe st=>match e with
  | .normal=>fin st
  | .ret=>fin st
  | .exit _=>none
 |none=>none
structure Im where
 cell:Nat->Nat->Prop
 obj:Nat->Prop
variable{I I':Im}
structure Row(w:World)(I:Im)(b o n:Nat)(cs:List Value):Prop where
 len:cs.length=n
 at_:∀j,j<n->I.cell b (o+j)/\w.cell? ⟨b,o+j,none⟩=cs[j]?
def K7(t:Ty)(v:Value)(cs:List Value):Prop:=match t with
 | .agg _=>v=.agg cs.toArray
 | .arr _ _=>v=.agg cs.toArray
 |_=>cs=[v]
def GK(k:IntKind)(n:Int):Prop:=k.min<=n/\n<=k.max
def HS(n cap:Nat):Prop:=n<=cap/\n<=281474976710656
structure Ext(w:World)(I:Im)(w':World)(I':Im):Prop where
 cell:∀b o,I.cell b o->I'.cell b o/\w'.cell? ⟨b,o,none⟩=w.cell? ⟨b,o,none⟩
 obj:∀b,I.obj b->I'.obj b/\w'.heap[b]?=w.heap[b]?
theorem Ext.refl(w:World)(I:Im):Ext w I w I:=⟨λ_ _ h=>⟨h,rfl⟩,λ_ h=>⟨h,rfl⟩⟩
theorem Ext.trans{I'':Im}(h:Ext w I w' I')(k:Ext w' I' w'' I''):Ext w I w'' I'':=
 ⟨λb o a=>⟨(k.cell b o (h.cell b o a).1).1,(k.cell b o (h.cell b o a).1).2.trans (h.cell b o a).2⟩,
  λb a=>⟨(k.obj b (h.obj b a).1).1,(k.obj b (h.obj b a).1).2.trans (h.obj b a).2⟩⟩
class Pins where
 P:Program
 ok:World->Im->Prop
 ext:∀{w w':World} {I I':Im},ok w I->Ext w I w' I'->ok w' I'
variable [Pins]
def Pinned(w:World)(I:Im):Prop:=Pins.ok w I
theorem Pinned.ext(h:Pinned w I)(e:Ext w I w' I'):Pinned w' I':=Pins.ext h e
structure After(gv:Nat->Prop)(w:World)(I:Im)(w':World)(I':Im):Prop where
 ext:Ext w I w' I'
 heap:∀b,b<w.heap.size->¬gv b->w'.heap[b]?=w.heap[b]?
 size:w.heap.size<=w'.heap.size
 newC:∀b o,I'.cell b o->I.cell b o\/w.heap.size<=b\/gv b
 newO:∀b,I'.obj b->I.obj b\/w.heap.size<=b\/gv b
 inC:∀b o,I'.cell b o->b<w'.heap.size
 inO:∀b,I'.obj b->b<w'.heap.size
 os:w'.os=w.os
 tape:w'.tape=w.tape
 output:w'.output=w.output
 pins:Pinned w' I'
def HY(w:World)(I:Im):Prop:=(∀b o,I.cell b o->b<w.heap.size)/\(∀b,I.obj b->b<w.heap.size)/\Pinned w I
theorem After.refl(h:HY w I):After gv w I w I:=
 ⟨Ext.refl _ _,λ_ _ _=>rfl,AH _,λ_ _ h=>.inl h,λ_ h=>.inl h,h.1,h.2.1,rfl,rfl,rfl,h.2.2⟩
def U6:Nat->Prop:=λ_=>False
theorem After.mono{gv':Nat->Prop}(h:After gv w I w' I')(a:∀b,gv b->gv' b):After gv' w I w' I':=
 ⟨h.ext,λb d e=>h.heap b d (λk=>e (a b k)),h.size,λb o k=>(h.newC b o k).imp id (Or.imp id (a b)),
  λb k=>(h.newO b k).imp id (Or.imp id (a b)),h.inC,h.inO,h.os,h.tape,h.output,h.pins⟩
theorem After.mem(h:After gv w I w' I'):HY w' I':=⟨h.inC,h.inO,h.pins⟩
theorem After.trans{gv':Nat->Prop}{I'':Im}(h:After gv w I w' I')(k:After gv' w' I' w'' I'')
 (j:∀b,gv' b->gv b\/w.heap.size<=b):After gv w I w'' I'':=
 ⟨h.ext.trans k.ext,
  λb d i=>(k.heap b (BC d h.size) (λhk=>(j b hk).elim i (λl=>absurd d (Nat.not_lt.2 l)))).trans (h.heap b d i),
  AT h.size k.size,
  λb o e=>by
   rcases k.newC b o e with a|a|a
   .exact h.newC b o a
   .exact .inr (.inl (AT h.size a))
   grind,
  λb e=>by
   rcases k.newO b e with a|a|a
   .exact h.newO b a
   .exact .inr (.inl (AT h.size a))
   grind,
  k.inC,k.inO,k.os.trans h.os,k.tape.trans h.tape,k.output.trans h.output,k.pins⟩
def FI(P:Program)(f:Nat):Prop:=∃fn c,P.funcs[f]?=some fn/\(fn.name== "runtime.NumGoroutine")=false/\fn.body=some c
def dS:Ty->List Value->List Value->Prop
 | .prod a b,l,cs=>∃v r c d,l=v::r/\cs=c++d/\c.length=a.sz/\K7 a v c/\dS b r d
 |t,l,cs=>∃v,l=[v]/\K7 t v cs
def A1V(c:Ty)(rv:Value)(cs:List Value):Prop:=match c with
 | .prod a b=>∃vs:Array Value,rv=.tuple vs/\dS (.prod a b) vs.toList cs
 |t=>K7 t rv cs
def Rel(w:World)(I:Im):(t:Ty)->t.T->List Value->Prop
 | .unit,_,cs=>cs=[]
 | .bool,x,cs=>cs=[.bool x]
 | .int k,n,cs=>cs=[.int k n]/\GK k n
 | .str,s,cs=>cs=[.string ⟨s.toArray⟩]/\(show List UInt8 from s).length<=281474976710656
 | .slice e,xs,cs=>∃a cap,cs=[.slice a (show List e.T from xs).length cap]/\HS (show List e.T from xs).length cap/\
  (a=none→(show List e.T from xs)=[]∧cap=0)∧
  ∀ad,a=some ad->(cap≠0->ad.spot=none)/\∀i x,(show List e.T from xs)[i]?=some x->∃c,Row w I ad.block (ad.off+i*e.sz) e.sz c/\Rel w I e x c
 | .agg t,x,cs=>Rel w I t x cs
 | .prod a b,x,cs=>∃c d,cs=c++d/\Rel w I a x.1 c/\Rel w I b x.2 d
 | .arr n e,xs,cs=>(show List e.T from xs).length=n/\cs.length=n*e.sz/\
  ∀i x,(show List e.T from xs)[i]?=some x→Rel w I e x ((cs.drop (i*e.sz)).take e.sz)
 | .ptr e,x,cs=>match(show Option e.T from x)with
  |none=>cs=[.pointer none]
  |some y=>∃ad,cs=[.pointer (some ad)]/\ad.spot=none/\∃c,Row w I ad.block ad.off e.sz c/\Rel w I e y c
 | .map k v,es,cs=>∃r,cs=[.map r]/\(r=none->(show List (k.T×v.T)from es)=[])/\
  ∀b,r=some b->I.obj b/\∃ents clock,w.heap[b]?=some (.map ents clock)/\(ents.size=(show List (k.T×v.T)from es).length/\Go.MapKept.Stamped ents clock)/\
   ∀(i:Nat) (x:k.T×v.T) (e:MapEntry),(show List (k.T×v.T)from es)[i]?=some x->ents[i]?=some e->
    (∃c,K7 k e.key c/\Rel w I k x.1 c)/\(∃c,K7 v e.val c/\Rel w I v x.2 c)
 | .inil,_,cs=>cs=[.nilIface]
 | .ialt id t r,x,cs=>match(show Sum t.T r.T from x)with
  | .inl y=>∃v c,cs=[.iface id v]/\K7 t v c/\Rel w I t y c
  | .inr z=>cs.length=1/\Rel w I r z cs
 | .self,_,cs=>cs=[.pointer none]
 | .opq,_,cs=>∃v,cs=[v]/\v.oneCell'=true
 | .fnc d c,F,cs=>match(show Option (d.T->Option c.T)from F)with
  |none=>cs=[.nilFunc]
  |some F=>∃f vs,cs=[.func (.func f) #[] vs]/\FI Pins.P f/\∀w' I',Ext w I w' I'->HY w' I'->∀(x:d.T) (l ac:List Value),dS d l ac->Rel w' I' d x ac->∀y,F x=some y->
    Calls Pins.P f (l.toArray++vs) w' λe w''=>∃rv I'' rc,e=.returned rv/\After U6 w' I' w'' I''/\A1V c rv rc/\Rel w'' I'' c y rc
def VRel(w:World)(I:Im)(t:Ty)(x:t.T)(v:Value):Prop:=∃c,K7 t v c/\Rel w I t x c
section
variable{w w':World}{I I':Im}
theorem Row.ext(h:Row w I b o n cs)(e:Ext w I w' I'):Row w' I' b o n cs:=
 ⟨h.len,λj a=>⟨(e.cell _ _ (h.at_ j a).1).1,(e.cell _ _ (h.at_ j a).1).2.trans (h.at_ j a).2⟩⟩
theorem Rel.ext(e:Ext w I w' I'):∀{t:Ty} {x:t.T} {cs:List Value},Rel w I t x cs->Rel w' I' t x cs:=by
 intro t;induction t with
 |unit=>intro x cs h;exact h
 |bool=>intro x cs h;exact h
 |int k=>intro x cs h;exact h
 |str=>intro x cs h;exact h
 |slice s D=>
  intro x cs h;obtain⟨a,J,j,o,q,B⟩:=h;refine⟨a,J,j,o,q,λH G=>⟨(B H G).1,λi y C=>?_⟩⟩;obtain⟨c,R,W⟩:=(B H G).2 i y C;exact⟨c,R.ext e,D W⟩
 |agg s D=>assumption
 |prod a b K L=>
  intro x cs h;obtain⟨c,d,j,o,q⟩:=h;exact⟨c,d,j,K o,L q⟩
 |arr n s D=>
  intro x cs h;obtain⟨j,o,q⟩:=h;exact⟨j,o,λi y C=>D (q i y C)⟩
 |ptr s D=>
  intro x cs h;cases x with
  |none=>exact h
  |some y=>
   obtain⟨H,j,o,c,q,B⟩:=h;exact⟨H,j,o,c,q.ext e,D B⟩
 |map k v X Y=>
  intro x cs h;obtain⟨r,j,o,q⟩:=h;refine⟨r,j,o,λb Q=>?_⟩;obtain⟨hi,E,A,B,O,h6⟩:=q b Q;refine⟨(e.obj b hi).1,E,A,(e.obj b hi).2.trans B,O,λi y en C U=>?_⟩;grind
 |inil=>intro x cs h;exact h
 |self=>intro x cs h;exact h
 |opq=>intro x cs h;exact h
 |fnc d c _ _=>
  intro x cs h;cases x with
  |none=>exact h
  |some F=>
   obtain⟨f,vs,j,o,q⟩:=h;exact⟨f,vs,j,o,λw1 I1 T V x l ac k1 Z y C=>q w1 I1 (e.trans T) V x l ac k1 Z y C⟩
 |ialt id t r N M=>
  intro x cs h;cases x with
  |inl y=>
   obtain⟨v,c,j,o,q⟩:=h;exact⟨v,c,j,o,N q⟩
  |inr z=>exact⟨h.1,M h.2⟩
theorem VRel.ext{x:t.T}{v:Value}(h:VRel w I t x v)(e:Ext w I w' I'):VRel w' I' t x v:=
 let ⟨c,h1,h2⟩:=h;⟨c,h1,h2.ext e⟩
theorem Rel.length:∀{t:Ty} {x:t.T} {cs:List Value},Rel w I t x cs->cs.length=t.sz:=by
 intro t;induction t with
 |unit=>intro x cs h;rw[show cs=[]from h];rfl
 |bool=>intro x cs h;rw[show cs=[.bool x]from h];rfl
 |int k=>intro x cs h;rw[show cs=_ from h.1];rfl
 |str=>intro x cs h;rw[show cs=_ from h.1];rfl
 |slice s i=>intro x cs h;obtain⟨a,o,e,_⟩:=h;rw[e];rfl
 |agg s i=>assumption
 |prod a b j l=>
  intro x cs h;obtain⟨c,d,e,q,A⟩:=h;rw[e,AE,j q,l A];rfl
 |arr n s i=>intro x cs h;exact h.2.1
 |ptr s i=>
  intro x cs h;cases x with
  |none=>rw[show cs=_ from h];rfl
  |some y=>obtain⟨G,e,_⟩:=h;rw[e];rfl
 |map k v B E=>intro x cs h;obtain⟨r,e,_⟩:=h;rw[e];rfl
 |inil=>intro x cs h;rw[show cs=_ from h];rfl
 |self=>intro x cs h;rw[show cs=_ from h];rfl
 |opq=>intro x cs h;obtain⟨v,e,_⟩:=h;rw[e];rfl
 |fnc d c _ _=>
  intro x cs h;cases x with
  |none=>rw[show cs=_ from h];rfl
  |some F=>obtain⟨f,H,e,_⟩:=h;rw[e];rfl
 |ialt id t r D C=>
  intro x cs h;cases x with
  |inl y=>obtain⟨v,c,e,_⟩:=h;rw[e];rfl
  |inr z=>exact h.1
end
def zc:Ty->List Value->Option (List Value)
 | .unit,l=>some l
 | .bool,l=>match l with| .bool false::r=>some r|_=>none
 | .int k,l=>match l with| .int k' n::r=>if NV k k'&&n==0 then some r else none|_=>none
 | .str,l=>match l with| .string s::r=>if s.data.toList.length==0 then some r else none|_=>none
 | .slice _,l=>match l with| .slice none 0 0::r=>some r|_=>none
 | .agg t,l=>zc t l
 | .prod a b,l=>match zc a l with|some r=>zc b r|none=>none
 | .arr n e,l=>Nat.rec (motive:=λ_=>List Value->Option (List Value)) some (λ_ ih l=>match zc e l with|some r=>ih r|none=>none) n l
 | .ptr _,l=>match l with| .pointer none::r=>some r|_=>none
 | .map _ _,l=>match l with| .map none::r=>some r|_=>none
 | .inil,l=>match l with| .nilIface::r=>some r|_=>none
 | .self,l=>match l with| .pointer none::r=>some r|_=>none
 | .opq,l=>match l with|v::r=>if v.oneCell'=true then some r else none|_=>none
 | .fnc _ _,l=>match l with| .nilFunc::r=>some r|_=>none
 | .ialt _ _ q,l=>if q.isIface=true then(match l with| .nilIface::r=>some r|_=>none)else none
def OY(t:Ty)(l:List Value):Bool:=match zc t l with
 |some []=>true
 |_=>false
def zv(t:Ty)(v:Value):Bool:=match t with
 | .agg t=>match v with| .agg cs=>OY t cs.toList|_=>false
 | .arr n e=>match v with| .agg cs=>OY (.arr n e) cs.toList|_=>false
 |t=>match v with| .agg _=>false|v=>OY t [v]
def A1W(P:Program)(id:Nat):Bool:=Nat.blt id P.types.size&&(match P.info? id with
 |some i=>match i.desc with| .named ..=>true|_=>false
 |none=>false)
def RN(P:Program)(t:Ty)(id:Nat):Bool:=(match P.info? id with
 |some i=>Nat.beq i.size t.sz&&(Nat.ble i.bytes (24*t.sz)&&(match i.zero with|some v=>zv t v|none=>false))
 |none=>false)&&(!(t.same (.agg GS))||A1W P id)
def layB(P:Program):Ty->(Nat->Bool)×(List Field->Nat->Bool)
 | .prod a b=>(λ_=>false,λl off=>match l with
  |f::r=>Nat.beq f.offset off&&((layB P a).1 f.type&&((layB P b).2 r (off+a.sz)&&Nat.blt 0 b.fields))
  |[]=>false)
 | .unit=>(λ_=>false,λl _=>match l with|[]=>true|_=>false)
 | .bool=>one .bool λd=>match d with| .bool=>true|_=>false
 | .int k=>one (.int k) λd=>match d with| .int k'=>NV k k'|_=>false
 | .str=>one .str λd=>match d with| .string=>true|_=>false
 | .slice e=>one (.slice e) λd=>match d with| .slice el=>(layB P e).1 el&&Nat.blt 0 e.sz|_=>false
 | .agg p=>one (.agg p) λd=>match d with| .struct fs=>(layB P p).2 fs.toList 0&&Nat.blt 0 p.sz|_=>false
 | .arr n e=>one (.arr n e) λd=>match d with| .array m el=>Nat.beq n m&&((layB P e).1 el&&(Nat.blt 0 e.sz&&Nat.blt 1 n))|_=>false
 | .ptr e=>one (.ptr e) λd=>match d with| .pointer el=>(layB P e).1 el|_=>false
 | .map k v=>one (.map k v) λd=>match d with| .map a b=>(layB P k).1 a&&(layB P v).1 b|_=>false
 | .inil=>one .inil λd=>match d with| .interface _=>true|_=>false
 | .self=>one .self λd=>match d with| .pointer _=>true|_=>false
 | .opq=>one .opq λd=>match d with| .pointer _=>true| .slice _=>true| .map _ _=>true| .func _ _ _=>true|_=>false
 | .fnc a b=>one (.fnc a b) λd=>match d with| .func _ _ _=>true|_=>false
 | .ialt i t r=>one (.ialt i t r) λd=>match d with| .interface _=>(Ty.isIface (.ialt i t r))|_=>false
 where
 one (t:Ty) (c:TypeDesc->Bool):(Nat->Bool)×(List Field->Nat->Bool):=
  let base:=λid=>RN P t id&&(match P.underlying id with|some d=>c d|none=>false)
  (base,λl off=>match l with|[f]=>Nat.beq f.offset off&&base f.type|_=>false)
def Lay(P:Program)(t:Ty)(id:Nat):Prop:=(layB P t).1 id=true
theorem Ty.sz_bare(t:Ty):t.bare.sz=t.sz:=by cases t<;>rfl
def N3(t:Ty)(p:List Bool)(u:Ty):Prop:=∃u',t.sub p=some u'/\u'.bare=u.bare
structure Gh where
 im:Im
 val:Nat->Nat->Option Value
 ety:Nat->Option Ty
 box:Nat->Option (Nat×Ty)
variable [Pins]
def ArgsV(w:World)(I:Im):(d:Ty)->d.T->List Value->Prop
 | .prod a b,x,l=>∃v r,l=v::r/\VRel w I a x.1 v/\ArgsV w I b x.2 r
 |t,x,l=>∃v,l=[v]/\VRel w I t x v
def RetV(w:World)(I:Im):(c:Ty)->c.T->Value->Prop
 | .prod a b,y,rv=>∃vs:Array Value,rv=.tuple vs/\ArgsV w I (.prod a b) y vs.toList
 |t,y,rv=>VRel w I t y rv
theorem dT:∀{d:Ty} {x:d.T} {l:List Value},ArgsV w I d x l<->∃ac,dS d l ac/\Rel w I d x ac:=by
 intro d;induction d with
 |prod a b t j=>
  intro x l;constructor
  .rintro⟨v,r,rfl,⟨c,i,h⟩,o⟩;obtain⟨ac,q,k⟩:=j.1 o;exact⟨c++ac,⟨v,r,c,ac,rfl,rfl,h.length,i,q⟩,c,ac,rfl,h,k⟩
  .rintro⟨ac,⟨v,r,c,e,rfl,rfl,i,h,o⟩,y,z,q,k,s⟩;obtain⟨rfl,rfl⟩:=List.append_inj q (by rw[i,k.length]);exact⟨v,r,rfl,⟨c,h,k⟩,j.2 ⟨e,o,s⟩⟩
 |_=>
  intro x l;constructor
  .rintro⟨v,rfl,c,i,h⟩;exact⟨c,⟨v,rfl,i⟩,h⟩
  .rintro⟨ac,⟨v,rfl,i⟩,h⟩;exact⟨v,rfl,ac,i,h⟩
theorem A1X:∀{c:Ty} {y:c.T} {i:Value},RetV w I c y i<->∃r,A1V c i r/\Rel w I c y r:=by
 intro c y i;cases c with
 |prod a b=>
  constructor
  .rintro⟨v,rfl,h⟩;obtain⟨ac,d,e⟩:=dT.1 h;exact⟨ac,⟨v,rfl,d⟩,e⟩
  .rintro⟨r,⟨v,rfl,d⟩,e⟩;exact⟨v,rfl,dT.2 ⟨r,d,e⟩⟩
 |_=>exact Iff.rfl
theorem RetV.one{c:Ty}{y:c.T}{r:Value}(hc:∀a b,c≠.prod a b):RetV w I c y r<->VRel w I c y r:=by
 cases c<;>first|exact Iff.rfl|grind
def HofD(P:Program)(D:Prop)(w:World)(I:Im)(d c:Ty)(F:d.T->Option c.T)(f:Nat)(vs:Array Value):Prop:=
 FI P f∧∀w' I',Ext w I w' I'→HY w' I'→∀x (l:List Value),ArgsV w' I' d x l→∀y,F x=some y→
  Calls P f (l.toArray++vs) w' λe w''=>∃rv I'',e=.returned rv/\After U6 w' I' w'' I''/\RetV w'' I'' c y rv/\(D->w'.drawn<=w''.drawn)
theorem HofD.fnc{d c:Ty}{F:d.T->Option c.T}{vs:Array Value}{D:Prop}(h:HofD Pins.P D w I d c F f vs):
 Rel w I (.fnc d c) (some F:Option (d.T->Option c.T)) [.func (.func f) #[] vs]:=
 ⟨f,vs,rfl,h.1,λw' I' a b x l ac k1 k y e=>(h.2 w' I' a b x l (dT.2 ⟨ac,k1,k⟩) y e).mono λ_ _ ⟨r,I'',q,i,j,_⟩ =>
  let ⟨rc,r1,r2⟩:=A1X.1 j
  ⟨r,I'',rc,q,i,r1,r2⟩⟩
theorem A1Y{d c:Ty}{F:d.T->Option c.T}(h:Rel w I (.fnc d c) (some F:Option (d.T->Option c.T)) cs):
 ∃f v,cs=[.func (.func f) #[] v]/\HofD Pins.P False w I d c F f v:=by
 obtain⟨f,v,a,b,e⟩:=h;refine⟨f,v,a,b,λw' I' i j x l k y o=>?_⟩;grind[dT,A1X]
def pC:SV->Value->List Value->Prop
 | .val t _,v,c=>K7 t v c
 |_,v,c=>c=[v]
def Fit:SV->Ty->Prop
 | .val u _,t=>u.bare=t.bare
 | .pr a b,t=>∃x y,t.bare=.prod x y/\Fit a x/\Fit b y
 | .obj _ _,t=>t.sz=1
 | .ptr _ _ _,t=>t.sz=1
 | .nilS,t=>t.sz=1
 | .nns _ _,t=>t.sz=1
 | .mns _ _,t=>t.sz=1
 | .fn _ _,t=>t.sz=1
 | .hof _ _ _ _,t=>t.sz=1
 | .slf _,t=>t.sz=1
 |_,_=>False
def CR(P:Program)(w:World)(G:Gh):SV->List Value->Prop
 | .undef,_=>True
 | .val t x,cs=>Rel w G.im t x cs
 | .nilS,cs=>cs=[.slice none 0 0]
 | .nilI,cs=>cs=[.nilIface]
 | .nilP,cs=>cs=[.pointer none]
 | .nilM,cs=>cs=[.map none]
 | .nilF,cs=>cs=[.nilFunc]
 | .nns e x,cs=>Rel w G.im (.slice e) x cs/\∃ad len cap,cs=[.slice (some ad) len cap]
 | .mns e x,cs=>Rel w G.im (.slice e) (x.getD []) cs/\∃ad len cap,cs=[.slice ad len cap]/\ad.isNone=x.isNone
 | .em _,cs=>∃ad,cs=[.slice (some ad) 0 0]
 | .pr a b,cs=>∃c d,cs=c++d/\CR P w G a c/\CR P w G b d
 | .obj k g,cs=>∃v,G.val k g=some v/\v.oneCell'=true/\cs=[v]
 | .ptr k p u,cs=>∃b t o,G.box k=some (b,t)/\t.off p=some o/\N3 t p u/\cs=[.pointer (some ⟨b,o,none⟩)]
 | .ptri k p i q u,cs=>∃b t o n e o',G.box k=some (b,t)/\t.off p=some o/\N3 t p (.arr n e)/\i<n/\e.off q=some o'/\N3 e q u/\
  cs=[.pointer (some ⟨b,o+i*e.sz+o',none⟩)]
 | .elem k g i q u,cs=>∃b o len cap e o',G.val k g=some (.slice (some ⟨b,o,none⟩) len cap)/\G.ety k=some e/\i<len/\e.off q=some o'/\N3 e q u/\
  cs=[.pointer (some ⟨b,o+i*e.sz+o',none⟩)]
 | .ref t x,cs=>∃ad c,cs=[.pointer (some ad)]/\ad.spot=none/\Row w G.im ad.block ad.off t.sz c/\Rel w G.im t x c
 | .lnS n,cs=>∃a cap,cs=[.slice a n cap]/\n<=281474976710656
 | .rf0 t x,cs=>∃b c,cs=[.pointer (some ⟨b,0,none⟩)]/\Row w G.im b 0 t.sz c/\Rel w G.im t x c
 | .fn f caps,cs=>∃vs:Array Value,cs=[.func (.func f) #[] vs]/\CR P w G caps vs.toList
 | .hof nd d c F,cs=>∃f vs,cs=[.func (.func f) #[] vs]/\HofD P (nd=true) w G.im d c F f vs
 | .snil,cs=>cs=[]
 | .scons a b,cs=>∃v r,cs=v::r/\(∃c,pC a v c/\CR P w G a c)/\CR P w G b r
 | .tup l,cs=>∃vs:Array Value,cs=[.tuple vs]/\CR P w G l vs.toList
 | .grd _ _ _,_=>False
 | .bt t c,cs=>∃cs',cs=[.agg cs'.toArray]/\(∃a b,t=.agg (.prod a b)/\Fit c (.prod a b))/\(∀x∈cs',x.oneCell'=true)/\CR P w G c cs'
 | .slf k,cs=>∃b t,G.box k=some (b,t)/\(cs=[.pointer none]\/cs=[.pointer (some ⟨b,0,none⟩)])
def SR(P:Program)(w:World)(G:Gh)(s:SV)(v:Value):Prop:=∃c,pC s v c/\CR P w G s c
structure GLe(w:World)(G:Gh)(w':World)(G':Gh):Prop where
 ext:Ext w G.im w' G'.im
 val:∀k g v,G.val k g=some v->G'.val k g=some v
 ety:∀k t,G.ety k=some t->G'.ety k=some t
 box:∀k b,G.box k=some b->G'.box k=some b
theorem GLe.refl(w:World)(G:Gh):GLe w G w G:=⟨Ext.refl _ _,λ_ _ _ h=>h,λ_ _ h=>h,λ_ _ h=>h⟩
theorem GLe.trans{G G' G'':Gh}(h:GLe w G w' G')(k:GLe w' G' w'' G''):GLe w G w'' G'':=
 ⟨h.ext.trans k.ext,λa b c d=>k.val _ _ _ (h.val a b c d),λa b c=>k.ety _ _ (h.ety a b c),λa b c=>k.box _ _ (h.box a b c)⟩
section
variable{P:Program}{w w':World}{G G':Gh}
theorem CR.mono(e:GLe w G w' G'):∀{s:SV} {cs:List Value},CR P w G s cs->CR P w' G' s cs:=by
 intro s;induction s with
 |undef=>intro cs h;trivial
 |val t x=>intro cs h;exact Rel.ext e.ext (show Rel w G.im t x cs from h)
 |nilS=>intro cs h;exact h
 |nilI=>intro cs h;exact h
 |nilP=>intro cs h;exact h
 |nilM=>intro cs h;exact h
 |nilF=>intro cs h;exact h
 |nns t x=>intro cs h;exact⟨Rel.ext e.ext h.1,h.2⟩
 |mns t x=>intro cs h;exact⟨Rel.ext e.ext h.1,h.2⟩
 |em t=>intro cs h;exact h
 |pr a b C D=>intro cs h;obtain⟨c,d,j,z,A⟩:=h;exact⟨c,d,j,C z,D A⟩
 |obj k g=>intro cs h;obtain⟨v,j,z⟩:=h;exact⟨v,e.val _ _ _ j,z⟩
 |ptr k p u=>intro cs h;obtain⟨b,t,o,j,z⟩:=h;exact⟨b,t,o,e.box _ _ j,z⟩
 |ptri k p i q u=>intro cs h;obtain⟨b,t,o,n,el,J,j,z⟩:=h;exact⟨b,t,o,n,el,J,e.box _ _ j,z⟩
 |elem k g i q u=>intro cs h;obtain⟨b,o,l,c,el,J,j,z,A⟩:=h;exact⟨b,o,l,c,el,J,e.val _ _ _ j,e.ety _ _ z,A⟩
 |ref t x=>intro cs h;obtain⟨K,c,j,z,A,B⟩:=h;exact⟨K,c,j,z,A.ext e.ext,B.ext e.ext⟩
 |lnS n=>intro cs h;exact h
 |rf0 t x=>intro cs h;obtain⟨b,c,j,A,B⟩:=h;exact⟨b,c,j,A.ext e.ext,B.ext e.ext⟩
 |fn f caps E=>intro cs h;obtain⟨H,j,z⟩:=h;exact⟨H,j,E z⟩
 |hof d c F=>
  intro cs h;obtain⟨f,H,j,z⟩:=h;exact⟨f,H,j,z.1,λQ I1 L M x l N y O=>z.2 Q I1 (e.ext.trans L) M x l N y O⟩
 |snil=>intro cs h;exact h
 |scons a b C D=>
  intro cs h;obtain⟨v,r,j,⟨c,z,A⟩,B⟩:=h;exact⟨v,r,j,⟨c,z,C A⟩,D B⟩
 |tup l E=>intro cs h;obtain⟨H,j,z⟩:=h;exact⟨H,j,E z⟩
 |grd _ _ _ _=>intro cs h;exact h
 |bt t c E=>intro cs h;obtain⟨I,j,z,A,B⟩:=h;exact⟨I,j,z,A,E B⟩
 |slf k=>intro cs h;obtain⟨b,t,j,z⟩:=h;exact⟨b,t,e.box _ _ j,z⟩
theorem SR.mono{v:Value}(h:SR P w G s v)(e:GLe w G w' G'):SR P w' G' s v:=let ⟨c,h1,h2⟩:=h;⟨c,h1,h2.mono e⟩
end
structure Fr where
 gv:Nat->Prop
 w0:World
 i0:Im
 fx:Nat->Option Value
 dr:Bool
variable{fr:Fr}
def Fr.owned(fr:Fr)(b:Nat):Prop:=fr.w0.heap.size<=b\/fr.gv b
def RowAt(w:World)(b:Nat)(cs:Array Value)(el:TypeId):Prop:=∃fz:Nat×Nat,w.heap[b]?=some (.cells cs el fz)/\(fz.2<=fz.1\/cs.size<=fz.1)
theorem RowAt.of{cs:Array Value}(h:w.heap[b]?=some (.cells cs el (0,0))):RowAt w b cs el:=⟨_,h,.inl (AH _)⟩
theorem RowAt.lt{cs:Array Value}(h:RowAt w b cs el):b<w.heap.size:=let ⟨_,h1,_⟩:=h;(BO.1 h1).1
theorem RowAt.cell{cs:Array Value}(h:RowAt w b cs el)(o:Nat):w.cell? ⟨b,o,none⟩=cs.toList[o]?:=by
 obtain⟨fz,a,_⟩:=h;simp[World.cell?,a]
theorem RowAt.keep{cs:Array Value}(h:RowAt w b cs el)(e:w'.heap[b]?=w.heap[b]?):RowAt w' b cs el:=let ⟨fz,h1,h2⟩:=h;⟨fz,e.trans h1,h2⟩
def SlOK(fr:Fr)(w:World)(I:Im)(el:Nat)(t:Ty)(xs:List t.T)(wr:Bool)(v:Value):Prop:=
 (v=.slice none 0 0/\xs=[])\/
 ∃b cap cs,v=.slice (some ⟨b,0,none⟩) xs.length cap/\HS xs.length cap/\RowAt w b cs el/\cs.size=cap*t.sz/\
  (∀i x,xs[i]?=some x->Rel w I t x ((cs.toList.drop (i*t.sz)).take t.sz))/\fr.owned b/\
  (wr=true->∀o,¬I.cell b o)/\(wr=false->∀o,o<xs.length*t.sz<->I.cell b o)/\¬I.obj b
def A1Z(fr:Fr)(w:World)(I:Im)(k v:Ty)(es:List (k.T×v.T))(wr:Bool)(cv:Value):Prop:=
 ∃b ents clock,cv=.map (some b)/\w.heap[b]?=some (.map ents clock)/\(ents.size=es.length/\Go.MapKept.Stamped ents clock)/\
  (∀(i:Nat) (x:k.T×v.T) (e:MapEntry),es[i]?=some x->ents[i]?=some e->VRel w I k x.1 e.key/\VRel w I v x.2 e.val)/\((wr=true->¬I.obj b)/\(wr=false->I.obj b))/\(∀o,¬I.cell b o)/\fr.owned b
def HO:Value->Value
 | .slice (some ad) _ _=>.map (some ad.block)
 |_=>.map none
def MgOK(fr:Fr)(w:World)(I:Im)(id:Nat)(k t:Ty)(es:List (k.T×List t.T))(tk:Option k.T)(us:List Value)(cv:Value):Prop:=
 ∃b ents clock,cv=.map (some b)/\w.heap[b]?=some (.map ents clock)/\(ents.size=es.length/\Go.MapKept.Stamped ents clock)/\us.length=es.length/\
  (∀ (i:Nat) (x:k.T×List t.T) (e:MapEntry) (u:Value),es[i]? = some x->ents[i]? = some e->us[i]? = some u ->
   VRel w I k x.1 e.key/\((tk=some x.1/\u=.map none/\VRel w I (.slice t) x.2 e.val)\/(SlOK fr w I id t x.2 false e.val/\u=HO e.val)))/\
  (∀(i j c:Nat),us[i]?=some (.map (some c))->us[j]?=some (.map (some c))->i=j)/\(es.map (·.1)).Nodup/\¬I.obj b/\(∀o,¬I.cell b o)/\fr.owned b
def U7:Option (List Nat)->Nat->Option (List Nat)
 |some (j::p),i=>bif Nat.beq j i then some p else none
 |_,_=>none
def DV(ow:Nat->Prop)(w:World)(I:Im)(t:Ty):(ids:List Nat)->(E7 ids t).T->Option (List Nat)->List Value->List Nat->Prop
 |[],x,_,cs,bs=>bs=[]/\Rel w I t x cs
 |id::r,xs,h,cs,bs=>∃v,cs=[v]/\v.oneCell'=true/\
  ((h=some []/\bs=[]/\∃ a cap,v=.slice a (show List (E7 r t).T from xs).length cap/\(show List (E7 r t).T from xs).length<=281474976710656) \/
   (h≠some []/\v=.slice none 0 0/\(show List (E7 r t).T from xs)=[]/\bs=[])\/
   (h≠some []/\∃ b o cap cells bss,v=.slice (some ⟨b,o,none⟩) (show List (E7 r t).T from xs).length cap/\HS (show List (E7 r t).T from xs).length cap/\RowAt w b cells id /\
    o+cap*(E7 r t).sz<=cells.size/\ow b/\(∀c,¬I.cell b c)/\¬I.obj b/\List.length bss=(show List (E7 r t).T from xs).length/\bs=b::List.flatten bss/\
    ∀i x,(show List (E7 r t).T from xs)[i]?=some x->DV ow w I t r x (U7 h i) ((cells.toList.drop (o+i*(E7 r t).sz)).take (E7 r t).sz) (bss.getD i [])))
def I8(b:Nat):Value:=.map (some b)
def pD(w:World)(G:Gh)(gk:Nat)(h:Option (List Nat))(v:Value):Prop:=match h with
 |some [i]=>∃hv b o len cap,G.val (gk-2) 0=some hv/\v=.slice (some ⟨b,o,none⟩) len cap/\i<len/\w.cell? ⟨b,o+i,none⟩=some hv
 |_=>True
def DpOK(fr:Fr)(w:World)(G:Gh)(k:Nat):(ids:List Nat)->(t:Ty)->(E7 ids t).T->Nat->Option (List Nat)->Bool->Prop
 |[],_,_,_,_,_=>False
 |id::r,t,x,gk,h,true=>h≠some []/\G.ety k=some (E7 r t)/\∃v us bs,G.val k 0=some v/\G.val gk 0=some (.tuple us)/\us.toList=List.map I8 bs/\bs.Nodup/\DV fr.owned w G.im t (id::r) x h [v] bs/\pD w G gk h v
 |id::r,t,x,_,_,false=>∃v,G.val k 0=some v/\Rel w G.im (E7 (id::r) t) x [v]
def ObjOK(P:Program)(fr:Fr)(w:World)(G:Gh)(k:Nat):Obj->Prop
 | .box t c wr=>∃b cs el,G.box k=some (b,t)/\w.heap[b]?=some (.cells cs el (0,0))/\cs.size=t.sz/\Fit c t/\CR P w G c cs.toList/\((wr=true->∀o,¬G.im.cell b o)/\(wr=false->∀o,o<t.sz->G.im.cell b o))/\¬G.im.obj b/\fr.owned b/\(t=GS->Lay P (.agg GS) el)
 | .sl el t xs g wr=>G.ety k=some t/\∃v,G.val k g=some v/\SlOK fr w G.im el t xs wr v
 | .mp a b es wr=>∃v,G.val k 0=some v/\A1Z fr w G.im a b es wr v
 | .mg id a t es tk gk=>∃v us,G.val k 0=some v/\G.val gk 0=some (.tuple us)/\MgOK fr w G.im id a t es tk us.toList v
 | .dp ids t x gk h wr=>DpOK fr w G k ids t x gk h wr
 | .kv t x=>∃b c,G.box k=some (b,t)/\Row w G.im b 0 t.sz c/\Rel w G.im t x c
 | .kn f c=>∃b vs,G.box k=some (b,.bool)/\G.im.cell b 0/\w.cell? ⟨b,0,none⟩=some (.func (.func f) #[] vs)/\CR P w G c vs.toList
def Bk(G:Gh)(k:Nat)(o:Obj)(b:Nat):Prop:=match o with
 | .box _ _ _=>(G.box k).map (·.1)=some b
 | .sl _ _ _ g _=>(match G.val k g with
  |some (.slice (some ad) _ _)=>some ad.block
  |_=>none)=some b
 | .mp _ _ _ _=>(match G.val k 0 with
  |some (.map (some b))=>some b
  |_=>none)=some b
 | .mg _ _ _ _ _ gk=>G.val k 0=some (.map (some b))\/∃us,G.val gk 0=some (.tuple us)/\Value.map (some b)∈us.toList
 | .dp _ _ _ gk _ wr=>wr=true/\∃us,G.val gk 0=some (.tuple us)/\I8 b∈us.toList
 | .kn _ _=>False
 | .kv _ _=>False
theorem DpOK.shape{G:Gh}{r:List Nat}{xs:List (E7 r t).T}{z:Nat}{wr:Bool}(x:DpOK fr w G k (id::r) t xs z h wr):
 ∃a d,G.val k 0=some (.slice a xs.length d)/\xs.length<=281474976710656:=by
 cases wr with
 |true=>
  obtain⟨B,_,v,C,A,j,_,_,_,⟨v',l,_,e⟩,_⟩:=x;have q:v=v':=(AB.1 l);subst q;rcases e with⟨e,_⟩|⟨_,rfl,s,_⟩|⟨_,b,o,d,i,y,rfl,s,_⟩
  .grind
  .grind
  .exact⟨_,d,j,s.2⟩
 |false=>
  obtain⟨v,j,a,d,l,e,_⟩:=x;have q:v=_:=(AB.1 l);subst q;exact⟨a,d,j,e.2⟩
theorem DpOK.rel{G:Gh}{ids:List Nat}{x:(E7 ids t).T}{b:Nat}(a:DpOK fr w G k ids t x b h false):
 ∃v,G.val k 0=some v/\Rel w G.im (E7 ids t) x [v]:=by
 cases ids with
 |nil=>exact absurd a id
 |cons id r=>exact a
def holds(a:Act)(tk:List (Nat×Bool)):Prop:=∀t∈tk,a.tmps.getD t.1 undef=.bool t.2
def SlotOK(P:Program)(w:World)(G:Gh)(a:Act):SV->Value->Prop
 | .grd tk g s,v=>(holds a tk->g=true/\SR P w G s v)/\(¬holds a tk->v=undef)
 |s,v=>SR P w G s v
structure Sim(P:Program)(fr:Fr)(free:Nat->Prop)(sl:Nat->SV)(σ:SSo)(a:Act)(w:World)(G:Gh):Prop where
 slots:∀t,SlotOK P w G a (sl t) (a.tmps.getD t undef)
 defs:a.defers=[]
 objs:∀k o,σ k=some o->ObjOK P fr w G k o
 sep:∀j k o o' b,σ j=some o->σ k=some o'->Bk G j o b->Bk G k o' b->j=k
 after:After fr.gv fr.w0 fr.i0 w G.im
 fresh:∀k,free k->σ k=none/\G.ety k=none/\G.box k=none/\∀g,G.val k g=none
section
variable{P:Program}{w:World}{G:Gh}{I:Im}
theorem Rel.cast{u:Ty}{x:t.T}{y:u.T}(h:Ty.cast? t u x=some y)(a:Rel w I t x cs):Rel w I u y cs:=by
 grind[Ty.cast?_some]
theorem VRel.cast{u:Ty}{x:t.T}{y:u.T}{v:Value}(h:Ty.cast? t u x=some y)(a:VRel w I t x v):VRel w I u y v:=by
 grind[Ty.cast?_some]
theorem Rel.iface_dflt:∀{t:Ty},t.isIface=true→Rel w I t t.dflt [.nilIface]:=by
 intro t;induction t with
 |inil=>intro _;rfl
 |ialt i a r d b=>intro h;exact⟨rfl,b h⟩
 |_=>intro h;exact absurd h (by simp[Ty.isIface])
theorem ADP{v:Value}(h:t.isIface=true):K7 t v [v]:=by
 cases t<;>first|rfl|(simp[Ty.isIface]at h)
theorem K8{x:t.T}{v:Value}(a:s.as t=some x)(J:SR P w G s v):VRel w G.im t x v:=by
 obtain⟨c,i,j⟩:=J;cases s with
 |val u y=>exact VRel.cast a ⟨c,i,j⟩
 |nilS=>
  cases t with
  |slice e=>
   have l:x=([]:List e.T):=(A2 a).symm;subst l;refine⟨c,i,?_⟩;rw[show c=_ from j];exact⟨none,0,rfl,⟨AH _,BJ _⟩,λ_=>⟨rfl,rfl⟩,λA h=>ol⟩
  |_=>simp[SV.as]at a
 |nilP=>
  cases t with
  |ptr e=>
   have l:x=(none:Option e.T):=(A2 a).symm;subst l;exact⟨c,i,j⟩
  |_=>simp[SV.as]at a
 |nilM=>
  cases t with
  |map k v=>
   have l:x=([]:List (k.T×v.T)):=(A2 a).symm;subst l;refine⟨c,i,none,j,λ_=>rfl,λb h=>ol⟩
  |_=>simp[SV.as]at a
 |nilI=>
  simp only[SV.as]at a;split at a
  .rename_i hi;simp only[AO]at a;subst a;have q:c=[v]:=i;have o:c=[.nilIface]:=j;rw[q]at o;injection o with r _;subst r;exact⟨_,ADP hi,Rel.iface_dflt hi⟩
  .cases a
 |ref u y=>
  cases t with
  |ptr e=>
   simp only[SV.as]at a;cases B:Ty.cast? u e y with
   |none=>grind
   |some z=>
    rw[B]at a;have l:x=(some z:Option e.T):=(A2 a).symm;subst l;obtain⟨A,d,r,D,E,H⟩:=j;obtain⟨C,I⟩:=Ty.cast?_some B;subst C;subst I;exact⟨c,i,A,r,D,d,E,H⟩
  |_=>simp[SV.as]at a
 |nns e y=>exact VRel.cast a ⟨c,i,j.1⟩
 |mns e y=>exact VRel.cast a ⟨c,i,j.1⟩
 |_=>simp[SV.as]at a
theorem RO{el:Nat}{xs:List t.T}{v:Value}(h:SlOK fr w I el t xs false v):Rel w I (.slice t) xs [v]:=by
 rcases h with⟨rfl,rfl⟩|⟨b,a,cs,rfl,o,q,z,k,_,_,r,_⟩
 .exact⟨none,0,rfl,⟨AH _,BJ _⟩,λ_=>⟨rfl,rfl⟩,λl h=>ol⟩
 .refine⟨some ⟨b,0,none⟩,a,rfl,o,(λh=>ol),λl d=>?_⟩;cases d;refine⟨λ_=>rfl,λi x e=>⟨_,⟨?_,λj y=>?_⟩,k i x e⟩⟩
  .exact(k i x e).length
  .have hi:i<xs.length:=(A9.1 e).1
   have s:i*t.sz+j<xs.length*t.sz:=by
    have:(i+1)*t.sz<=xs.length*t.sz:=AZ _ hi;rw[CK]at this;omega
   refine⟨(r rfl _).1 (by simpa using s),?_⟩;rw[B4,if_pos y,B5,<-q.cell];simp
theorem ADQ{a b:Ty}{l:List (a.T×b.T)}{v:Value}(h:A1Z fr w I a b l false v):Rel w I (.map a b) l [v]:=by
 obtain⟨o,j,d,rfl,q,r,s,t,_⟩:=h;refine⟨some o,rfl,(λh=>ol),λA k=>?_⟩;cases k;exact⟨t.2 rfl,j,d,q,r,λi x e z y=>s i x e z y⟩
theorem A1_(l:∀k o,σ k=some o->ObjOK P fr w G k o){x:t.T}{v:Value}
 (i:PQ σ k g t=some x)(C:G.val k g=some v):Rel w G.im t x [v]:=by
 unfold PQ at i;split at i
 .rename_i id e E z wr hk;split at i
  .rename_i h;simp only[A6,BP]at h;have d:=A3 h.1;subst d;have j:wr=false:=h.2;subst j;obtain⟨_,v',q,s⟩:=l k _ hk;grind[Rel.cast,RO]
  .cases i
 .rename_i a b y wr hk;split at i
  .rename_i h;simp only[A6,BP]at h;have d:=A3 h.1;subst d;have j:wr=false:=h.2;subst j;obtain⟨v',q,s⟩:=l k _ hk;grind[Rel.cast,ADQ]
  .cases i
 .rename_i id r e D A B wr hk;split at i
  .rename_i h;simp only[A6,BP]at h;have d:=A3 h.1;subst d;have j:wr=false:=h.2;subst j;obtain⟨v',q,s⟩:=l k _ hk;grind[Rel.cast]
  .cases i
 .cases i
theorem A1a{a b:Ty}{d:List (a.T×b.T)}{u:Ty}{y:u.T}{v:Value}(h:Ty.cast? (.map a b) u d=some y):K7 u v [v]:=by
 obtain⟨e,_⟩:=Ty.cast?_some h;subst e;rfl
theorem A1b{xs:List t.T}{u:Ty}{y:u.T}{v:Value}(h:Ty.cast? (.slice t) u xs=some y):K7 u v [v]:=by
 obtain⟨e,_⟩:=Ty.cast?_some h;subst e;rfl
theorem ADR{x:t.T}{v:Value}(h:PQ σ k g t=some x):K7 t v [v]:=by
 grind[PQ,A1b,A1a,hk,E7]
theorem A1c(h:∀k g,s≠.obj k g):s.asV σ t=s.as t:=by
 cases s<;>first|rfl|grind
theorem K9(q:∀k o,σ k=some o->ObjOK P fr w G k o){x:t.T}{v:Value}
 (d:s.asV σ t=some x)(i:SR P w G s v):VRel w G.im t x v:=by
 cases s with
 |obj k g=>
  obtain⟨c,j,v',l,_,e⟩:=i;have b:c=[v]:=j;rw[b]at e;injection e with h4 _;subst h4;have a:PQ σ k g t=some x:=d;exact⟨_,ADR a,A1_ q a l⟩
 |_=>rw[A1c (by intro k g h;cases h)]at d;exact K8 d i
theorem A1d{x:t.T}(h:s.as t=some x)(b:CR P w G s cs):Rel w G.im t x cs:=by
 cases s with
 |val u y=>exact Rel.cast h b
 |nilS=>
  have j:cs=[.slice none 0 0]:=b;obtain⟨c,i,a⟩:=K8 (P:=P) (w:=w) (G:=G) h (v:=.slice none 0 0) ⟨_,rfl,rfl⟩;cases t with
  |slice e=>subst j;rw[show c=[_]from i]at a;exact a
  |_=>simp[SV.as]at h
 |nilP=>
  have j:cs=[.pointer none]:=b;obtain⟨c,i,a⟩:=K8 (P:=P) (w:=w) (G:=G) h (v:=.pointer none) ⟨_,rfl,rfl⟩;cases t with
  |ptr e=>subst j;rw[show c=[_]from i]at a;exact a
  |_=>simp[SV.as]at h
 |nilM=>
  have j:cs=[.map none]:=b;obtain⟨c,i,a⟩:=K8 (P:=P) (w:=w) (G:=G) h (v:=.map none) ⟨_,rfl,rfl⟩;cases t with
  |map k v=>subst j;rw[show c=[_]from i]at a;exact a
  |_=>simp[SV.as]at h
 |nilI=>
  have j:cs=[.nilIface]:=b;grind[SV.as,Option.some.injEq,Rel.iface_dflt]
 |ref u y=>
  obtain⟨l,d,o,q,r,z⟩:=b;obtain⟨c,i,a⟩:=K8 (P:=P) (w:=w) (G:=G) h (v:=.pointer (some l)) ⟨_,rfl,l,d,rfl,q,r,z⟩;cases t with
  |ptr e=>subst o;rw[show c=[_]from i]at a;exact a
  |_=>simp[SV.as]at h
 |nns e y=>exact Rel.cast h b.1
 |mns e y=>exact Rel.cast h b.1
 |_=>simp[SV.as]at h
theorem ADS(i:∀k o,σ k=some o->ObjOK P fr w G k o){x:t.T}
 (a:s.asV σ t=some x)(b:CR P w G s cs):Rel w G.im t x cs:=by
 cases s with
 |obj k g=>
  obtain⟨v,d,_,e⟩:=b;rw[e];exact A1_ i a d
 |_=>rw[A1c (by intro k g h;cases h)]at a;exact A1d a b
theorem U8{u:Ty}{y:u.T}{x:p.T}(h:MW u p y=some x)(a:Rel w I u y cs):Rel w I p x cs:=by
 cases u with
 |agg q=>exact Rel.cast (t:=q) h a
 |_=>exact Rel.cast h a
theorem ADT(h:∀u x,s≠.val u x):s.asL σ t=s.asV σ t:=by
 cases s<;>first|rfl|grind
theorem ADU(d:∀k o,σ k=some o->ObjOK P fr w G k o){x:t.T}
 (a:s.asL σ t=some x)(b:CR P w G s cs):Rel w G.im t x cs:=by
 cases s with
 |val u y=>exact U8 (p:=t) a b
 |_=>rw[ADT (by intro k g h;cases h)]at a;exact ADS d a b
theorem XU{u:Ty}{y:u.T}{x:t.T}(h:LZ u t y=some x)(a:Rel w I u y cs):Rel w I t x cs:=by
 unfold LZ at h;grind[Rel.cast,U8]
theorem U9(z:∀k o,σ k=some o->ObjOK P fr w G k o):∀{t:Ty} {s:SV} {x:t.T} {cs:List Value},
 s.asC σ t=some x->CR P w G s cs->Rel w G.im t x cs:=by
 intro t;induction t with
 |prod a b i j=>
  intro s x cs h e;simp only[SV.asC]at h;split at h
  .split at h
   .rename_i p q A B;have C:=A2 h;subst C;obtain⟨c,d,l,r,v⟩:=e;exact⟨c,d,l,i A r,j B v⟩
   .cases h
  .exact U8 (p:=.prod a b) h e
  .exact A1d h e
 |agg p D=>
  intro s x cs h e;simp only[SV.asC]at h;show Rel w G.im p x cs;cases s with
  |val u y=>exact U8 (p:=p) h e
  |_=>exact D h e
 |_=>
  intro s x cs h e;exact ADU z h e
theorem Fit.len:∀{c:SV} {t:Ty} {cs:List Value},Fit c t->CR P w G c cs->cs.length=t.sz:=by
 intro c;induction c with
 |val u y=>
  intro t cs i j;have l:u.bare=t.bare:=i;rw[Rel.length (show Rel w G.im u y cs from j),<-Ty.sz_bare,l,Ty.sz_bare]
 |pr a b q r=>
  intro t cs i j;obtain⟨x,y,l,z,A⟩:=i;obtain⟨c,d,B,C,D⟩:=j;rw[B,AE,q z C,r A D,<-Ty.sz_bare t,l];rfl
 |obj k g=>intro t cs i j;obtain⟨v,_,_,h⟩:=j;rw[h];exact(show t.sz=1 from i).symm
 |ptr k p u=>intro t cs i j;obtain⟨b,E,o,_,_,_,h⟩:=j;rw[h];exact(show t.sz=1 from i).symm
 |nilS=>intro t cs i j;rw[show cs=_ from j];exact(show t.sz=1 from i).symm
 |slf k=>intro t cs i j;obtain⟨b,E,_,h⟩:=j;rcases h with h|h<;>(rw[h];exact(show t.sz=1 from i).symm)
 |fn f c=>intro t cs i j;obtain⟨H,h,_⟩:=j;rw[h];exact(show t.sz=1 from i).symm
 |hof d c F=>intro t cs i j;obtain⟨f,H,h,_⟩:=j;rw[h];exact(show t.sz=1 from i).symm
 |nns e x=>
  intro t cs i j;obtain⟨_,s,n,m,h⟩:=j;rw[h];exact(show t.sz=1 from i).symm
 |mns e x=>
  intro t cs i j;obtain⟨_,s,n,m,h,_⟩:=j;rw[h];exact(show t.sz=1 from i).symm
 |_=>intro t cs i;exact absurd i (by simp[Fit])
theorem Ty.off_bare(t:Ty)(i:Bool)(r:List Bool):t.off (i::r)=t.bare.off (i::r):=by cases t<;>rfl
theorem Ty.sub_bare(t:Ty)(i:Bool)(r:List Bool):t.sub (i::r)=t.bare.sub (i::r):=by cases t<;>rfl
theorem pE{c x y:SV}(k:Fit c t)(l:CR P w G c cs)(h:c.halves=some (x,y)):
 ∃o ty c1 c2,t.bare=.prod o ty/\Fit x o/\Fit y ty/\cs=c1++c2/\CR P w G x c1/\CR P w G y c2/\c1.length=o.sz/\c2.length=ty.sz:=by
 cases c with
 |pr a b=>
  simp only[SV.halves,AO,DF]at h;obtain⟨rfl,rfl⟩:=h;obtain⟨u,v,A,r,s⟩:=k;obtain⟨c,d,j,e,i⟩:=l;exact⟨u,v,c,d,A,r,s,j,e,i,r.len e,s.len i⟩
 |val u z=>
  cases u with
  |prod a b=>
   simp only[SV.halves,AO,DF]at h;obtain⟨rfl,rfl⟩:=h;obtain⟨c,d,j,e,i⟩:=l;exact⟨a,b,c,d,(show(Ty.prod a b).bare=t.bare from k).symm,rfl,rfl,j,e,i,e.length,i.length⟩
  |agg q=>
   cases q with
   |prod a b=>
    simp only[SV.halves,AO,DF]at h;obtain⟨rfl,rfl⟩:=h;obtain⟨c,d,j,e,i⟩:=(show Rel w G.im (.prod a b) z cs from l);exact⟨a,b,c,d,(show(Ty.agg (.prod a b)).bare=t.bare from k).symm,rfl,rfl,j,e,i,e.length,i.length⟩
   |_=>simp[SV.halves]at h
  |_=>simp[SV.halves]at h
 |_=>simp[SV.halves]at h
theorem pF(h:o+n<=c1.length):((c1++c2).drop o).take n=(c1.drop o).take n:=by
 rw[List.drop_append_of_le_length oa,List.take_append_of_le_length om]
theorem pG:((c1++c2).drop (c1.length+o)).take n=(c2.drop o).take n:=by
 simp
theorem XV:∀{p:List Bool} {c s:SV} {t:Ty} {cs:List Value},Fit c t->CR P w G c cs->c.getAt p=some s->
 ∃o u,t.off p=some o/\t.sub p=some u/\Fit s u/\o+u.sz<=t.sz/\CR P w G s ((cs.drop o).take u.sz):=by
 intro p;induction p with
 |nil=>
  intro c s t cs b d h;simp only[SV.getAt,AO]at h;subst h;refine⟨0,t,by cases t<;>rfl,by cases t<;>rfl,b,oa,?_⟩;rw[DA,CI (by rw[b.len d];omega)];exact d
 |cons i r l=>
  intro c s t cs b d h;simp only[SV.getAt]at h;cases j:c.halves with
  |none=>grind
  |some H=>
   obtain⟨x,y⟩:=H;rw[j]at h;obtain⟨q,ty,c1,c2,a,v,z,I,A,B,J,K⟩:=pE b d j;have C:t.sz=q.sz+ty.sz:=by rw[<-Ty.sz_bare,a];rfl
   cases i with
   |false=>
    obtain⟨o,u,k1,k,e,D,E⟩:=l v A h;refine⟨o,u,by rw[Ty.off_bare,a];exact k1,by rw[Ty.sub_bare,a];exact k,e,oa,?_⟩;grind
   |true=>
    obtain⟨o,u,k1,k,e,D,E⟩:=l z B h;refine⟨q.sz+o,u,by grind[Ty.off_bare,Ty.off],by rw[Ty.sub_bare,a];exact k,e,oa,?_⟩;grind[pG]
def FA(cs:List Value)(o:Nat)(ds:List Value):List Value:=cs.take o++(ds++cs.drop (o+ds.length))
theorem A1e(h:o+ds.length<=c1.length):FA (c1++c2) o ds=FA c1 o ds++c2:=by
 unfold FA;grind
theorem A1f:FA (c1++c2) (c1.length+o) ds=c1++FA c2 o ds:=by
 simp_all[FA,List.take_append,CI,List.drop_append,D6,C_]
theorem KZ(h:o+ds.length<=cs.length):(FA cs o ds).length=cs.length:=by
 grind[FA]
theorem pH:∀{p:List Bool} {c j s:SV} {t u:Ty} {cs ds:List Value} {o:Nat},Fit c t->CR P w G c cs->c.setAt p s=some j->
 t.off p=some o->t.sub p=some u->Fit s u->CR P w G s ds->
 Fit j t/\o+u.sz<=t.sz/\CR P w G j (FA cs o ds):=by
 intro p;induction p with
 |nil=>
  intro c j s t u cs ds o q v a e l h b;simp only[SV.setAt,AO]at a;subst a;have z:t=u:=by cases t<;>exact A2 l
  subst z;have d:0=o:=by cases t<;>exact A2 e
  subst d;refine⟨h,oa,?_⟩
  have:FA cs 0 ds=ds:=by
   unfold FA;rw[D6 (by rw[q.len v,h.len b];omega)];simp
  grind
 |cons i r L=>
  intro c j s t u cs ds o q v a e l h b;simp only[SV.setAt]at a;cases I:c.halves with
  |none=>grind
  |some T=>
   obtain⟨x,y⟩:=T;rw[I]at a;obtain⟨B,ty,c1,c2,k,C,D,M,E,H,N,U⟩:=pE q v I;have Q:t.sz=B.sz+ty.sz:=by rw[<-Ty.sz_bare,k];rfl
   rw[Ty.off_bare,k]at e;rw[Ty.sub_bare,k]at l;have O:=h.len b;cases i with
   |false=>
    simp only[AA]at a;cases J:x.setAt r s with
    |none=>grind
    |some W=>
     rw[J]at a;simp only[BH,AO]at a;subst a;obtain⟨k1,R,A⟩:=L C E J e l h b;refine⟨⟨B,ty,k,k1,D⟩,oa,_,_,?_,A,H⟩;grind[A1e]
   |true=>
    simp only[A8]at a;cases K:y.setAt r s with
    |none=>grind
    |some X=>
     rw[K]at a;simp only[BH,AO]at a;subst a;simp only[Ty.off,A8]at e;cases d:ty.off r with
     |none=>grind
     |some V=>
      rw[d]at e;simp only[BH,AO]at e;subst e;obtain⟨k1,R,A⟩:=L D H K d l h b;refine⟨⟨B,ty,k,C,k1⟩,oa,_,_,?_,E,A⟩;rw[M,<-N,A1f]
theorem UA:∀{t:Ty} {p:List Bool} {x:t.T} {u:Ty} {y:u.T} {cs:List Value},Rel w I t x cs->Ty.at t p x=some ⟨u,y⟩->
 ∃o,t.off p=some o/\t.sub p=some u/\o+u.sz<=t.sz/\Rel w I u y ((cs.drop o).take u.sz):=by
 intro t
 have base:∀{t:Ty} {x:t.T} {u:Ty} {y:u.T} {cs:List Value},Rel w I t x cs->(some ⟨t,x⟩:Option ((u:Ty)×u.T))=some ⟨u,y⟩->
  ∃o,t.off []=some o/\t.sub []=some u/\o+u.sz<=t.sz/\Rel w I u y ((cs.drop o).take u.sz):=by
  intro t x u y cs d h;cases h;refine⟨0,by cases t<;>rfl,by cases t<;>rfl,oa,?_⟩;rw[DA,CI (by rw[d.length];omega)];exact d
 have step:∀ {a b:Ty} (e:∀ {p:List Bool} {x:a.T} {u:Ty} {y:u.T} {cs:List Value},Rel w I a x cs->Ty.at a p x=some ⟨u,y⟩ ->
  ∃o,a.off p=some o/\a.sub p=some u/\o+u.sz<=a.sz/\Rel w I u y ((cs.drop o).take u.sz))
  (j:∀ {p:List Bool} {x:b.T} {u:Ty} {y:u.T} {cs:List Value},Rel w I b x cs->Ty.at b p x=some ⟨u,y⟩ ->
   ∃o,b.off p=some o/\b.sub p=some u/\o+u.sz<=b.sz/\Rel w I u y ((cs.drop o).take u.sz))
  {i:Bool} {r:List Bool} {x:a.T×b.T} {u:Ty} {y:u.T} {cs:List Value},Rel w I (.prod a b) x cs->
  (bif i then Ty.at b r x.2 else Ty.at a r x.1)=some ⟨u,y⟩->
  ∃o,(Ty.prod a b).off (i::r)=some o/\(Ty.prod a b).sub (i::r)=some u/\o+u.sz<=(Ty.prod a b).sz/\Rel w I u y ((cs.drop o).take u.sz):=by
  intro a b e j i r x u y cs d h;obtain⟨c1,c2,z,s,B⟩:=d;have C:(Ty.prod a b).sz=a.sz+b.sz:=rfl;cases i with
  |false=>
   obtain⟨o,k1,k,v,l⟩:=e s h;refine⟨o,k1,k,oa,?_⟩;rw[z,pF (by rw[s.length];omega)];exact l
  |true=>
   obtain⟨o,k1,k,v,l⟩:=j B h;refine⟨a.sz+o,by simp[Ty.off,k1],k,oa,?_⟩;rw[z,<-s.length,pG];exact l
 induction t with
 |prod a b e j=>
  intro p x u y cs d h;cases p with
  |nil=>exact base d h
  |cons i r=>exact step e j d h
 |agg q D=>
  intro p x u y cs d h;cases p with
  |nil=>exact base d h
  |cons i r=>
   cases q with
   |prod a b=>
    have A:Ty.at (.prod a b) (i::r) x=some ⟨u,y⟩:=h;obtain⟨o,k1,k,v,l⟩:=D (p:=i::r) (show Rel w I (.prod a b) x cs from d) A;exact⟨o,k1,k,v,l⟩
   |_=>simp[Ty.at]at h
 |_=>
  intro p x u y cs d h;cases p with
  |nil=>exact base d h
  |cons i r=>simp[Ty.at]at h
theorem dU:∀{t:Ty} {p:List Bool} {x z:t.T} {u:Ty} {y:u.T} {cs ds:List Value} {o:Nat},Rel w I t x cs->Ty.put t p x u y=some z->
 t.off p=some o->Rel w I u y ds->t.sub p=some u/\o+u.sz<=t.sz/\Rel w I t z (FA cs o ds):=by
 intro t
 have base:∀{t:Ty} {x z:t.T} {u:Ty} {y:u.T} {cs ds:List Value} {o:Nat},Rel w I t x cs->Ty.cast? u t y=some z->t.off []=some o->Rel w I u y ds->
  t.sub []=some u/\o+u.sz<=t.sz/\Rel w I t z (FA cs o ds):=by
  intro t x z u y cs ds o k h d j;have l:0=o:=by cases t<;>exact A2 d
  subst l;have C:=Rel.cast h j;obtain⟨e,N⟩:=Ty.cast?_some h;subst e;refine⟨by cases u<;>rfl,oa,?_⟩
  have:FA cs 0 ds=ds:=by
   unfold FA;rw[D6 (by rw[k.length,j.length];omega)];simp
  rw[this];exact C
 have step:∀ {a b:Ty} (s:∀ {p:List Bool} {x z:a.T} {u:Ty} {y:u.T} {cs ds:List Value} {o:Nat},Rel w I a x cs->Ty.put a p x u y=some z ->
  a.off p=some o->Rel w I u y ds->a.sub p=some u/\o+u.sz<=a.sz/\Rel w I a z (FA cs o ds))
  (v:∀ {p:List Bool} {x z:b.T} {u:Ty} {y:u.T} {cs ds:List Value} {o:Nat},Rel w I b x cs->Ty.put b p x u y=some z ->
   b.off p=some o->Rel w I u y ds->b.sub p=some u/\o+u.sz<=b.sz/\Rel w I b z (FA cs o ds))
  {i:Bool} {r:List Bool} {x z:a.T×b.T} {u:Ty} {y:u.T} {cs ds:List Value} {o:Nat},Rel w I (.prod a b) x cs->
  (bif i then(Ty.put b r x.2 u y).map (λz=>(x.1,z))else(Ty.put a r x.1 u y).map (λz=>(z,x.2)))=some z->
  (Ty.prod a b).off (i::r)=some o->Rel w I u y ds->
  (Ty.prod a b).sub (i::r)=some u/\o+u.sz<=(Ty.prod a b).sz/\Rel w I (.prod a b) z (FA cs o ds):=by
  intro a b s v i r x z u y cs ds o k h d j;obtain⟨c1,c2,E,B,G⟩:=k;have K:(Ty.prod a b).sz=a.sz+b.sz:=rfl;have J:=j.length;cases i with
  |false=>
   simp only[AA]at h;cases A:Ty.put a r x.1 u y with
   |none=>grind
   |some q=>
    rw[A]at h;simp only[BH,AO]at h;subst h;obtain⟨k1,M,D⟩:=s B A d j;refine⟨k1,oa,_,_,?_,D,G⟩;rw[E,A1e (by rw[B.length];omega)]
  |true=>
   simp only[A8]at h;cases A:Ty.put b r x.2 u y with
   |none=>grind
   |some q=>
    rw[A]at h;simp only[BH,AO]at h;subst h;simp only[Ty.off,A8]at d;cases l:b.off r with
    |none=>grind
    |some O=>
     rw[l]at d;simp only[BH,AO]at d;subst d;obtain⟨k1,M,D⟩:=v G A l j;refine⟨k1,oa,_,_,?_,B,D⟩;rw[E,<-B.length,A1f]
 induction t with
 |prod a b s v=>
  intro p x z u y cs ds o k h d j;cases p with
  |nil=>exact base k h d j
  |cons i r=>exact step s v k h d j
 |agg q L=>
  intro p x z u y cs ds o k h d j;cases p with
  |nil=>exact base k h d j
  |cons i r=>
   cases q with
   |prod a b=>
    have H:Ty.put (.prod a b) (i::r) x u y=some z:=h;exact L (p:=i::r) (show Rel w I (.prod a b) x cs from k) H d j
   |_=>simp[Ty.put]at h
 |_=>
  intro p x z u y cs ds o k h d j;cases p with
  |nil=>exact base k h d j
  |cons i r=>simp[Ty.put]at h
end
section
variable{P:Program}{w:World}{I:Im}
theorem XW(k:IntKind):GK k 0:=by cases k<;>exact⟨oi,oi⟩
theorem A1g:∀{t:Ty} {l r:List Value},zc t l=some r->∃c,l=c++r/\Rel w I t t.dflt c:=by
 intro t;induction t with
 |unit=>intro l r h;exact⟨[],by simpa[zc]using h,rfl⟩
 |bool=>
  intro l r h;simp only[zc]at h;split at h
  .cases h;exact⟨[_],rfl,rfl⟩
  .cases h
 |int k=>
  intro l r h;simp only[zc]at h;split at h
  .split at h
   .rename_i y;cases h;simp only[A6,DT]at y;have:=TH y.1;subst this;exact⟨[_],rfl,by rw[y.2];rfl,XW k⟩
   .cases h
  .cases h
 |str=>
  intro l r h;simp only[zc]at h;split at h
  .rename_i s U;split at h
   .rename_i y;cases h
    have K:s.data= #[]:=by
     have:=DT.1 y;rw[CX]at this;exact Array.toList_eq_nil_iff.1 this
    have L:s=⟨#[]⟩:=by cases s;simp only at K;rw[K]
    exact⟨[_],rfl,by rw[L];rfl,by simp[Ty.dflt]⟩
   .cases h
  .cases h
 |slice e o=>
  intro l r h;simp only[zc]at h;split at h
  .cases h;exact⟨[_],rfl,none,0,rfl,⟨AH _,BJ _⟩,λ_=>⟨rfl,rfl⟩,λV h=>ol⟩
  .cases h
 |agg t o=>assumption
 |prod a b G H=>
  intro l r h;simp only[zc]at h;split at h
  .rename_i q D;obtain⟨c,B,j⟩:=G D;obtain⟨d,C,A⟩:=H h;exact⟨c++d,by rw[B,C,CF],c,d,rfl,j,A⟩
  .cases h
 |arr n e o=>
  have key:∀(n:Nat) (l r:List Value),Nat.rec (motive:=λ_=>List Value->Option (List Value)) some (λ_ o l=>match zc e l with|some r=>o r|none=>none) n l=some r->
   ∃c,l=c++r/\Rel w I (.arr n e) (List.replicate n e.dflt) c:=by
   intro n;induction n with
   |zero=>intro l r h;cases h;exact⟨[],rfl,rfl,oe,λi x z=>by simp at z⟩
   |succ n J=>
    intro l r h;simp only at h;split at h
    .rename_i q D;obtain⟨c,B,j⟩:=o D;obtain⟨d,C,A⟩:=J _ _ h;refine⟨c++d,by rw[B,C,CF],oe,?_,λi x z=>?_⟩
     .rw[AE,j.length,A.2.1,CK,Nat.add_comm]
     .cases i with
      |zero=>
       simp[List.replicate_succ]at z;subst z;rw[Nat.zero_mul,DA,List.take_append_of_le_length (by rw[j.length];omega),CI (by rw[j.length];omega)];exact j
      |succ i=>
       have E:(List.replicate n e.dflt)[i]?=some x:=by simpa[List.replicate_succ]using z
       have:=A.2.2 i x E;have M:(i+1)*e.sz=c.length+i*e.sz:=by rw[j.length,CK,Nat.add_comm]
       simp_all
    .cases h
  intro l r h;exact key n l r h
 |ptr e o=>
  intro l r h;simp only[zc]at h;split at h
  .cases h;exact⟨[_],rfl,rfl⟩
  .cases h
 |map k v O T=>
  intro l r h;simp only[zc]at h;split at h
  .cases h;exact⟨[_],rfl,none,rfl,λ_=>rfl,λb h=>ol⟩
  .cases h
 |inil=>
  intro l r h;simp only[zc]at h;split at h
  .cases h;exact⟨[_],rfl,rfl⟩
  .cases h
 |self=>
  intro l r h;simp only[zc]at h;split at h
  .cases h;exact⟨[_],rfl,rfl⟩
  .cases h
 |opq=>
  intro l r h;simp only[zc]at h;split at h
  .rename_i v U;split at h
   .rename_i N;cases h;exact⟨[v],rfl,v,rfl,N⟩
   .cases h
  .cases h
 |fnc a b _ _=>
  intro l r h;simp only[zc]at h;split at h
  .cases h;exact⟨[_],rfl,rfl⟩
  .cases h
 |ialt i t q R Q=>
  intro l r h;simp only[zc]at h;split at h
  .rename_i hi;split at h
   .cases h;exact⟨[_],rfl,Rel.iface_dflt (t:=.ialt i t q) hi⟩
   .cases h
  .cases h
theorem Value.cells_of_not_agg{v:Value}(h:∀cs,v≠.agg cs):v.cells= #[v]:=by
 cases v<;>first|rfl|grind
theorem pI{v:Value}(h:zv t v=true):VRel w I t t.dflt v/\Rel w I t t.dflt v.cells.toList:=by
 have a:∀{t:Ty} {l:List Value},OY t l=true->Rel w I t t.dflt l:=by
  intro t l h;unfold OY at h;split at h
  .rename_i i;obtain⟨c,b,j⟩:=A1g (w:=w) (I:=I) i;grind
  .cases h
 cases t with
 |agg t=>
  simp only[zv]at h;split at h
  .rename_i cs;have:=a h;exact⟨⟨_,by simp[K7],this⟩,this⟩
  .cases h
 |arr n e=>
  simp only[zv]at h;split at h
  .rename_i cs;have:=a h;exact⟨⟨_,by simp[K7],this⟩,this⟩
  .cases h
 |_=>
  simp only[zv]at h;split at h
  .cases h
  .rename_i d;have b:=a h;exact⟨⟨_,rfl,b⟩,by rw[Value.cells_of_not_agg d];exact b⟩
theorem JP(h:RN P t id=true):
 ∃i v,P.info? id=some i/\i.size=t.sz/\i.bytes<=24*t.sz/\i.zero=some v/\zv t v=true:=by
 unfold RN at h;rw[A6]at h
 replace h:=h.1
 split at h
 .rename_i i hi;simp only[A6]at h;obtain⟨b,d,a⟩:=h;split at a<;>simp_all
 .cases h
theorem ADV(h:RN P t id=true)(a:t.same (.agg GS)=true):id<P.types.size:=by
 simp_all[RN,A1W,A6,BS,CD,B_]
theorem IV{c:TypeDesc->Bool}(h:(layB.one P t c).1 id=true):RN P t id=true/\∃d,P.underlying id=some d/\c d=true:=by
 simp only[layB.one,A6]at h;grind
theorem Lay.inf(h:Lay P t id):RN P t id=true:=by
 unfold Lay at h;cases t<;>first|exact(IV h).1|(simp[layB]at h)
theorem Lay.slice(h:Lay P (.slice e) id):∃el,P.underlying id=some (.slice el)/\Lay P e el/\0<e.sz:=by
 obtain⟨_,d,b,a⟩:=IV h;split at a
 .simp only[A6,B_]at a;exact⟨_,b,a.1,a.2⟩
 .cases a
theorem Lay.agg(h:Lay P (.agg p) id):∃fs,P.underlying id=some (.struct fs)/\(layB P p).2 fs.toList 0=true/\0<p.sz:=by
 obtain⟨_,d,b,a⟩:=IV h;split at a<;>simp_all
theorem Lay.arr(h:Lay P (.arr n e) id):∃el,P.underlying id=some (.array n el)/\Lay P e el/\0<e.sz/\1<n:=by
 obtain⟨_,d,b,a⟩:=IV h;split at a
 .simp only[A6,B_]at a;have:=A3 a.1;subst this;exact⟨_,b,a.2.1,a.2.2.1,a.2.2.2⟩
 .cases a
theorem Lay.map{k v:Ty}(h:Lay P (.map k v) id):∃a b,P.underlying id=some (.map a b)/\Lay P k a/\Lay P v b:=by
 obtain⟨_,d,i,e⟩:=IV h;split at e
 .simp only[A6]at e;exact⟨_,_,i,e.1,e.2⟩
 .cases e
theorem Lay.ptr(h:Lay P (.ptr e) id):∃el,P.underlying id=some (.pointer el)/\Lay P e el:=by
 obtain⟨_,d,b,a⟩:=IV h;split at a
 .exact⟨_,b,a⟩
 .cases a
theorem Lay.int{k:IntKind}(h:Lay P (.int k) id):P.underlying id=some (.int k):=by
 obtain⟨_,d,b,a⟩:=IV h;grind[TH]
theorem Lay.self(h:Lay P .self id):∃el,P.underlying id=some (.pointer el):=by
 obtain⟨_,d,b,a⟩:=IV h;grind
theorem Lay.opq(h:Lay P .opq id):∃d,P.underlying id=some d/\∀ms,d≠.interface ms:=by
 obtain⟨_,d,b,a⟩:=IV h;grind
theorem Lay.fnc{a b:Ty}(h:Lay P (.fnc a b) id):∃d,P.underlying id=some d/\∀ms,d≠.interface ms:=by
 obtain⟨_,d,i,e⟩:=IV h;grind
theorem Lay.str(h:Lay P .str id):P.underlying id=some .string:=by
 obtain⟨_,d,b,a⟩:=IV h;grind
theorem Lay.bool(h:Lay P .bool id):P.underlying id=some .bool:=by
 obtain⟨_,d,b,a⟩:=IV h;grind
theorem Lay.iface(h:Lay P t id)(hi:t.isIface=true):∃ms,P.underlying id=some (.interface ms):=by
 cases t with
 |inil=>
  obtain⟨_,d,e,b⟩:=IV h;grind
 |ialt i a r=>
  obtain⟨_,d,e,b⟩:=IV h;grind
 |_=>simp[Ty.isIface]at hi
def Ty.isAgg:Ty->Bool
 | .agg _=>true
 | .arr _ _=>true
 |_=>false
theorem Lay.isAgg(h:Lay P t id):∃d,P.underlying id=some d/\(match d with| .struct _| .array _ _=>true|_=>false)=t.isAgg:=by
 cases t with
 |agg p=>obtain⟨fs,j,_⟩:=h.agg;exact⟨_,j,rfl⟩
 |arr n e=>obtain⟨el,j,_⟩:=h.arr;exact⟨_,j,rfl⟩
 |prod a b=>simp[Lay,layB]at h
 |unit=>simp[Lay,layB]at h
 |slice e=>obtain⟨el,j,_⟩:=h.slice;exact⟨_,j,rfl⟩
 |map k v=>obtain⟨a,b,j,_⟩:=h.map;exact⟨_,j,rfl⟩
 |ptr e=>obtain⟨el,j,_⟩:=h.ptr;exact⟨_,j,rfl⟩
 |bool=>exact⟨_,h.bool,rfl⟩
 |int k=>exact⟨_,h.int,rfl⟩
 |str=>exact⟨_,h.str,rfl⟩
 |inil=>obtain⟨ms,j⟩:=h.iface rfl;exact⟨_,j,rfl⟩
 |self=>
  obtain⟨_,d,o,l⟩:=IV h;split at l
  .exact⟨_,o,rfl⟩
  .cases l
 |opq=>
  obtain⟨_,d,o,l⟩:=IV h;split at l<;>first|exact⟨_,o,rfl⟩|cases l
 |fnc a b=>
  obtain⟨_,d,o,l⟩:=IV h;split at l
  .exact⟨_,o,rfl⟩
  .cases l
 |ialt i a r=>
  obtain⟨_,d,o,l⟩:=IV h;split at l
  .exact⟨_,o,rfl⟩
  .cases l
theorem XX:∀{p:Ty} {l:List Field} {off:Nat},(layB P p).2 l off=true->l.length=p.fields/\∀f F,l[f]?=some F->
 ∃u o,p.sub (GJ p.fields f)=some u/\p.off (GJ p.fields f)=some o/\F.offset=off+o/\Lay P u F.type:=by
 intro p
 have e:∀{t:Ty} {c:TypeDesc->Bool} {l:List Field} {off:Nat},t.fields=1->(∀id,(layB.one P t c).1 id=true->Lay P t id)->
  (layB.one P t c).2 l off=true->l.length=t.fields/\∀f F,l[f]?=some F->
   ∃u o,t.sub (GJ t.fields f)=some u/\t.off (GJ t.fields f)=some o/\F.offset=off+o/\Lay P u F.type:=by
  intro t c l off i B h;simp only[layB.one]at h;split at h
  .rename_i g;simp only[A6]at h;have A:=A3 h.1;refine⟨by rw[i];rfl,λf F d=>?_⟩
   have j:f=0/\g=F:=by
    cases f with
    |zero=>grind
    |succ f=>simp at d
   obtain⟨rfl,rfl⟩:=j;rw[i];refine⟨t,0,by cases t<;>rfl,by cases t<;>rfl,oa,B _ ?_⟩;simp_all[layB.one,A6]
  .cases h
 induction p with
 |prod a b C k=>
  intro l off h;simp only[layB]at h;split at h
  .rename_i g r;simp only[A6]at h;obtain⟨i,s,v,w⟩:=h;have A:=A3 i;have z:0<b.fields:=by rwa[B_]at w
   obtain⟨k1,D⟩:=k v;refine⟨by simp[Ty.fields,k1],λf F d=>?_⟩;have y:∃m,b.fields=m:=⟨_,rfl⟩;obtain⟨m,q⟩:=y;cases m with
   |zero=>omega
   |succ m=>
    cases f with
    |zero=>
     have x:g=F:=by simpa using d
     subst x;refine⟨a,0,?_,?_,oa,s⟩
     .simp only[Ty.fields,q,GJ,Ty.sub,AA]
     .simp only[Ty.fields,q,GJ,Ty.off,AA]
    |succ f=>
     obtain⟨u,o,G,H,I,E⟩:=D f F (by simpa using d);refine⟨u,a.sz+o,?_,?_,oa,E⟩
     .simp_all[Ty.fields,GJ,Ty.sub,A8]
     simp_all[Ty.fields,GJ,Ty.off,A8]
  .cases h
 |unit=>
  intro l off h;simp only[layB]at h;split at h
  .exact⟨rfl,λf F d=>by simp at d⟩
  .cases h
 |_=>intro l off h;exact e rfl (λid h=>h) h
end
structure MemS(P:Program)(fr:Fr)(free:Nat->Prop)(σ:SSo)(w:World)(G:Gh):Prop where
 objs:∀k o,σ k=some o->ObjOK P fr w G k o
 sep:∀j k o o' b,σ j=some o->σ k=some o'->Bk G j o b->Bk G k o' b->j=k
 after:After fr.gv fr.w0 fr.i0 w G.im
 fresh:∀k,free k->σ k=none/\G.ety k=none/\G.box k=none/\∀g,G.val k g=none
def J1(free:Nat->Prop)(self:Nat):Nat->Prop:=λk=>free k/\JO self k=false
def Res(P:Program)(fr:Fr)(free:Nat->Prop)(self:Nat)(σ:SSo)(w:World)(G:Gh)(u:Upd)(v:Value)(w':World):Prop:=
 ∃G',GLe w G w' G'/\MemS P fr (J1 free self) (EN σ u.wr) w' G'/\SR P w' G' u.sv v
inductive Gives:OpRes->Upd->Prop
 |pure (u:Upd):Gives (.pure u) u
 |may {α:Type} {m:Option α} {d:α} {f:α->Upd} {x:α} (h:m=some x):Gives (.may α m d f) (f x)
theorem Gives.pure_inv{a:Upd}(h:Gives (.pure u) a):a=u:=by cases h;rfl
theorem Gives.v_inv(h:Gives (.v s) u):u=⟨s,[]⟩:=h.pure_inv
theorem Gives.may_inv{m:Option α}{d:α}{f:α->Upd}(h:Gives (.may α m d f) u):∃x,m=some x/\u=f x:=by
 cases h<;>grind
section
variable{P:Program}{fr:Fr}{free:Nat->Prop}{self:Nat}{σ:SSo}{w:World}{G:Gh}
theorem MemS.shrink{free':Nat->Prop}(h:MemS P fr free σ w G)(a:∀k,free' k->free k):MemS P fr free' σ w G:=
 ⟨h.objs,h.sep,h.after,λk hk=>h.fresh k (a k hk)⟩
theorem Res.same{v:Value}(a:MemS P fr free σ w G)(b:SR P w G s v):Res P fr free self σ w G ⟨s,[]⟩ v w:=
 ⟨G,GLe.refl _ _,a.shrink λ_ h=>h.1,b⟩
def Done(P:Program)(dr:Bool)(o:Oper)(a:Act)(w:World)(R:Value->World->Prop):Prop:=
 ∀(Q:Exit->Act->World->Prop) (next:Act->World->Prop),(∀v w',R v w'->(dr=true->w.drawn<=w'.drawn)->next (a.put o.dst v) w')->o.wp P a w next Q
theorem Done.value{o:Oper}{a:Act}{v:Value}(h:(execOp a.eval o).run P w=.ok (.value v) w')(d:R v w'):Done P dr o a w R:=by
 intro Q next b
 unfold Oper.wp;rw[h];exact b v w' d λ_=>nM _ _ _ _ h
theorem Done.skip{o:Oper}{a:Act}(h:(execOp a.eval o).run P w=.ok .skip w')(d:R undef w'):Done P dr o a w R:=by
 intro Q next b
 unfold Oper.wp;rw[h];exact b undef w' d λ_=>nM _ _ _ _ h
theorem Done.enter{o:Oper}{a:Act}{f:FuncId}{b:Array Value}
 (h:(execOp a.eval o).run P w=.ok (.enter f b) w')(hc:Calls P f b w' λe w''=>∃v,e=.returned v/\R v w''/\(dr=true->w'.drawn<=w''.drawn)):Done P dr o a w R:=by
 intro Q next k
 unfold Oper.wp;rw[h];refine Calls.mono hc λe w'' j=>?_;obtain⟨v,rfl,l,i⟩:=j;exact k v w'' l λd=>AT (nM _ _ _ _ h) (i d)
theorem Done.mono{o:Oper}{a:Act}{R':Value->World->Prop}(h:Done P dr o a w R)(e:∀v w',R v w'->R' v w'):Done P dr o a w R':=
 λQ next d=>h Q next λv w' i b=>d v w' (e v w' i) b
theorem SR.int{k:IntKind}{n:Int}{v:Value}(h:SR P w G (.val (.int k) n) v):v=.int k n/\GK k n:=by
 obtain⟨c,a,d,e⟩:=h;have b:c=[v]:=a;grind
theorem SR.mk_int{k:IntKind}{n:Int}(h:GK k n):SR P w G (.val (.int k) n) (.int k n):=⟨_,rfl,rfl,h⟩
theorem SR.bool{b:Bool}{v:Value}(h:SR P w G (.val .bool b) v):v=.bool b:=by
 obtain⟨c,e,i⟩:=h;have a:c=[v]:=e;subst a;have d:[v]=[.bool b]:=i;cases d;rfl
theorem SR.mk_bool(b:Bool):SR P w G (.val .bool b) (.bool b):=⟨_,rfl,rfl⟩
theorem SR.str{s:DX}{v:Value}(h:SR P w G (.val .str s) v):v=.string ⟨s.toArray⟩/\s.length<=281474976710656:=by
 obtain⟨c,a,d,e⟩:=h;have b:c=[v]:=a;grind
theorem SR.mk_str{s:DX}(h:s.length<=281474976710656):SR P w G (.val .str s) (.string ⟨s.toArray⟩):=⟨_,rfl,rfl,h⟩
theorem SR.val{x:t.T}{v:Value}(h:SR P w G (.val t x) v):VRel w G.im t x v:=h
theorem N4(k:IntKind)(n:Int):GK k (k.wrap n):=by
 cases k<;>simp[GK,IntKind.wrap,IntKind.min,IntKind.max,IntKind.signed,IntKind.bits]<;>omega
theorem ADW(a b:DX):(⟨a.toArray⟩:ByteArray)++⟨b.toArray⟩=⟨(a++b).toArray⟩:=by
 rfl
theorem A1h(a:DX):(⟨a.toArray⟩:ByteArray).toList=a:=by rw[ByteArray.toList_eq]
theorem N5(a:DX):(⟨a.toArray⟩:ByteArray).size=a.length:=by rfl
theorem ADX{k l:IntKind}{x y z:Int}{t:TypeId}(h:shl? k x y=some z):(binOp .shl t (.int k x) (.int l y)).run P w=.ok (.int k z) w/\GK k z:=by
 unfold shl? at h;by_cases a:y<0
 .grind
 .rw[show decide (y<0)=false by simpa using a]at h;cases h;exact⟨by simp[binOp,Op.shift,a],N4 _ _⟩
theorem ADY{k:IntKind}{x:Int}(h:GK k x)(n:Nat):GK k (x.fdiv (2 ^ n)):=by
 have a:(0:Int)<2 ^ n:=Int.pow_pos oi;rw[DN _ (Int.le_of_lt a)];have d:k.min<=0:=(XW k).1;have b:0<=k.max:=(XW k).2;have l:(1:Int)<=2 ^ n:=a;unfold GK at *;by_cases e:0<=x
 .have i:=Int.ediv_nonneg e (Int.le_of_lt a);have j:x / 2 ^ n<=x:=Int.ediv_le_self _ e;omega
 .have i:x / 2 ^ n<0:=Int.ediv_neg_of_neg_of_pos oa a
  have j:x<=x / 2 ^ n:=by
   rw[Int.le_ediv_iff_mul_le a];have:=Int.mul_le_mul_of_nonpos_left (a:=x) (b:=2 ^ n) (c:=1) oa l;rw[Int.mul_one]at this;exact this
  omega
theorem ADZ{k l:IntKind}{x y z:Int}{t:TypeId}(hx:GK k x)(h:shr? k x y=some z):(binOp .shr t (.int k x) (.int l y)).run P w=.ok (.int k z) w/\GK k z:=by
 unfold shr? at h;by_cases a:y<0
 .grind
 .rw[show decide (y<0)=false by simpa using a]at h;cases h;exact⟨by simp[binOp,Op.shift,a],ADY hx _⟩
theorem AD_{k:IntKind}{x y:Int}(a:nY op k x y=some r)(b:Gives r u)
 (hx:GK k x)(s:GK k y)(t:TypeId):u.wr=[]/\∃v,(binOp op t (.int k x) (.int k y)).run P w=.ok v w/\SR P w G u.sv v:=by
 cases op<;>simp only[nY,AO]at a<;>first|(cases a;done)|skip
 case add=>subst a;rw[b.v_inv];exact⟨rfl,_,by simp[binOp,Op.intArith],SR.mk_int (N4 _ _)⟩
 case sub=>subst a;rw[b.v_inv];exact⟨rfl,_,by simp[binOp,Op.intArith],SR.mk_int (N4 _ _)⟩
 case mul=>subst a;rw[b.v_inv];exact⟨rfl,_,by simp[binOp,Op.intArith],SR.mk_int (N4 _ _)⟩
 case quo=>
  subst a;obtain⟨z,d,rfl⟩:=b.may_inv;unfold div? at d;by_cases e:y=0
  .grind
  .have:(y==0)=false:=by simpa using e
   rw[this]at d;simp only[AA,AO]at d;subst d;exact⟨rfl,_,by simp[binOp,Op.intDiv,e],SR.mk_int (N4 _ _)⟩
 case rem=>
  subst a;obtain⟨z,d,rfl⟩:=b.may_inv;unfold mod? at d;by_cases e:y=0
  .grind
  .have:(y==0)=false:=by simpa using e
   rw[this]at d;simp only[AA,AO]at d;subst d;refine⟨rfl,_,by simp[binOp,Op.intDiv,e],SR.mk_int ?_⟩;have l:(x.tmod y).natAbs<=x.natAbs:=by rw[Int.natAbs_tmod];exact Nat.mod_le _ _
   have o:0<=x->0<=x.tmod y:=λh=>Int.tmod_nonneg _ h
   have q:x<=0->x.tmod y<=0:=λh=>by
    have:=Int.tmod_nonneg y (show 0<= -x by omega);simp_all
   have j:k.min<=0:=(XW k).1;have i:0<=k.max:=(XW k).2;grind[GK]
 case eql=>subst a;rw[b.v_inv];refine⟨rfl,.bool (x==y),by simp[binOp,Op.intCmp],?_⟩;exact SR.mk_bool _
 case neq=>subst a;rw[b.v_inv];refine⟨rfl,.bool (x !=y),by simp[binOp,Op.intCmp],?_⟩;exact SR.mk_bool _
 case lss=>subst a;rw[b.v_inv];exact⟨rfl,_,by simp[binOp,Op.intCmp],SR.mk_bool _⟩
 case leq=>subst a;rw[b.v_inv];exact⟨rfl,_,by simp[binOp,Op.intCmp],SR.mk_bool _⟩
 case gtr=>subst a;rw[b.v_inv];exact⟨rfl,.bool (decide (x > y)),by simp[binOp,Op.intCmp],SR.mk_bool _⟩
 case geq=>subst a;rw[b.v_inv];exact⟨rfl,.bool (decide (x ≥ y)),by simp[binOp,Op.intCmp],SR.mk_bool _⟩
 case and=>subst a;rw[b.v_inv];exact⟨rfl,_,by simp[binOp,Op.intBits,JC],SR.mk_int (N4 _ _)⟩
 case or=>subst a;rw[b.v_inv];exact⟨rfl,_,by simp[binOp,Op.intBits,II],SR.mk_int (N4 _ _)⟩
 case xor=>subst a;rw[b.v_inv];exact⟨rfl,_,by simp[binOp,Op.intBits,A1H],SR.mk_int (N4 _ _)⟩
 case andNot=>subst a;rw[b.v_inv];exact⟨rfl,_,by simp[binOp,Op.intBits,OV],SR.mk_int (N4 _ _)⟩
theorem ADa{x y:DX}(h:nZ op x y=some r)(a:Gives r u)(t:TypeId):
 u.wr=[]/\∃v,(binOp op t (.string ⟨x.toArray⟩) (.string ⟨y.toArray⟩)).run P w=.ok v w/\SR P w G u.sv v:=by
 cases op<;>simp only[nZ,AO]at h<;>first|(cases h;done)|skip
 case add=>
  subst h;obtain⟨z,b,rfl⟩:=a.may_inv;unfold cat? at b;by_cases d:x.length+y.length<=281474976710656
  .have e:decide (x.length+y.length<=281474976710656)=true:=by simpa using d
   rw[e]at b;simp only[A8,AO]at b;subst b;refine⟨rfl,.string (⟨x.toArray⟩++⟨y.toArray⟩),?_,?_⟩
   .grind[binOp,run_string_add_sum,N5]
   grind[ADW,SR.mk_str]
  grind
 case eql=>subst h;rw[a.v_inv];refine⟨rfl,.bool (x==y),by simp[binOp,Op.stringOp],?_⟩;exact SR.mk_bool _
 case neq=>subst h;rw[a.v_inv];refine⟨rfl,.bool (!(x==y)),by simp[binOp,Op.stringOp],?_⟩;exact SR.mk_bool _
 case lss=>subst h;rw[a.v_inv];refine⟨rfl,.bool (Op.bytesLess x y),by simp[binOp,Op.stringOp],?_⟩;exact SR.mk_bool _
 case leq=>subst h;rw[a.v_inv];refine⟨rfl,.bool (Op.bytesLess x y||x==y),by simp[binOp,Op.stringOp],?_⟩;exact SR.mk_bool _
 case gtr=>subst h;rw[a.v_inv];refine⟨rfl,.bool (!(Op.bytesLess x y||x==y)),by simp[binOp,Op.stringOp],?_⟩;exact SR.mk_bool _
 case geq=>subst h;rw[a.v_inv];refine⟨rfl,.bool (!(Op.bytesLess x y)),by simp[binOp,Op.stringOp],?_⟩;exact SR.mk_bool _
theorem dV{t:TypeId}{x y:Operand}{v:Value}(h:∀cs,v≠.agg cs)(a:v≠.nilIface):
 (eqGuard op t x y v v').run P w=.ok () w:=by
 cases v<;>first|exact absurd rfl (h _)|exact absurd rfl a|(cases op<;>rfl)
theorem ADb{x y:Bool}(h:o0 op x y=some r)(b:Gives r u){t:TypeId}(i:P.underlying t=some .bool):
 u.wr=[]/\∃v,(binOp op t (.bool x) (.bool y)).run P w=.ok v w/\SR P w G u.sv v:=by
 have e:∀d,(Op.equalIn (d+1) t (.bool x) (.bool y)).run P w=.ok (x==y) w:=by
  intro d;simp[Op.equalIn,run_underlying i]
 have a:(Op.equal t (.bool x) (.bool y)).run P w=.ok (x==y) w:=e 9999;cases op<;>simp only[o0,AO]at h<;>first|(cases h;done)|skip
 case eql=>subst h;rw[b.v_inv];exact⟨rfl,.bool (x==y),by simp[binOp,a],SR.mk_bool _⟩
 case neq=>subst h;rw[b.v_inv];exact⟨rfl,.bool (!(x==y)),by simp[binOp,a],SR.mk_bool _⟩
theorem dW{b:Bool}(h:M1 op b=some r)(l:Gives r u){t:TypeId}{v:Value}(o:∀cs,v≠.agg cs)(q:v≠.nilIface)(x y:Operand)
 (d:(Op.equal t v v').run P w=.ok b w)(i:∀k n,v≠.int k n)(e:∀k n,v≠.float k n)(hc:∀k n m,v≠.complex k n m)(j:∀s,v≠.string s):
 u.wr=[]/\∃z,((do eqGuard op t x y v v';binOp op t v v':Sem Value)).run P w=.ok z w/\SR P w G u.sv z:=by
 have a:∀{z:Value},(binOp op t v v').run P w=.ok z w->((do eqGuard op t x y v v';binOp op t v v':Sem Value)).run P w=.ok z w:=by
  intro z A;rw[Sem.run_bind,dV o q];exact A
 cases op<;>simp only[M1,AO]at h<;>first|(cases h;done)|skip
 case eql=>
  subst h;rw[l.v_inv];refine⟨rfl,.bool b,a ?_,SR.mk_bool _⟩;cases v<;>first|exact absurd rfl (i _ _)|exact absurd rfl (e _ _)|exact absurd rfl (hc _ _ _)|exact absurd rfl (j _)|simp[binOp,d]
 case neq=>
  subst h;rw[l.v_inv];refine⟨rfl,.bool (!b),a ?_,SR.mk_bool _⟩;cases v<;>first|exact absurd rfl (i _ _)|exact absurd rfl (e _ _)|exact absurd rfl (hc _ _ _)|exact absurd rfl (j _)|simp[binOp,d]
theorem ADc{ty:Option Ty}{O:SV}{v:Value}(i:o4 op ty s O=some r)(L:Gives r u)(h:SR P w G s v)(A:SR P w G O v'){t:TypeId}(N:∀q,ty=some q->Lay P q t)(x y:Operand):
 u.wr=[]/\∃z,((do eqGuard op t x y v v';binOp op t v v':Sem Value)).run P w=.ok z w/\SR P w G u.sv z:=by
 have l:SR P w G .nilS v'->v'=.slice none 0 0:=λh=>by
  obtain⟨c,C,j⟩:=h;exact AB.1 ((show c=[v']from C).symm.trans j)
 have E:SR P w G .nilS v->v=.slice none 0 0:=λh=>by
  obtain⟨c,C,j⟩:=h;exact AB.1 ((show c=[v]from C).symm.trans j)
 have nilP:SR P w G .nilP v'->v'=.pointer none:=λh=>by
  obtain⟨c,C,j⟩:=h;exact AB.1 ((show c=[v']from C).symm.trans j)
 have M:SR P w G .nilP v->v=.pointer none:=λh=>by
  obtain⟨c,C,j⟩:=h;exact AB.1 ((show c=[v]from C).symm.trans j)
 unfold o4 at i;split at i
 .rename_i e;obtain⟨el,D,_⟩:=(N _ rfl).slice
  have J:∀{a:Option Addr} {n m:Nat},(Op.equal t (.slice a n m) (.slice none 0 0)).run P w=.ok a.isNone w:=by
   intro a n m
   have:∀d,(Op.equalIn (d+1) t (.slice a n m) (.slice none 0 0)).run P w=.ok a.isNone w:=by
    intro d;cases a<;>simp[Op.equalIn,run_underlying D]
   exact this 9999
  split at i
  .obtain⟨c,k,_,H,n,m,j⟩:=h;have K:v=.slice (some H) n m:=AB.1 ((show c=[v]from k).symm.trans j);rw[K,l A];exact dW i L oe oq x y J oe oe oe oe
  .obtain⟨c,k,_,H,n,m,j,I⟩:=h;have K:v=.slice H n m:=AB.1 ((show c=[v]from k).symm.trans j);rw[K,l A];rw[<-I]at i;exact dW i L oe oq x y J oe oe oe oe
  .rw[E h,l A];exact dW i L oe oq x y J oe oe oe oe
  .cases i
 .rename_i e;obtain⟨el,D,_⟩:=(N _ rfl).ptr
  have J:∀{a:Option Addr},(Op.equal t (.pointer a) (.pointer none)).run P w=.ok a.isNone w:=by
   intro a
   have:∀d,(Op.equalIn (d+1) t (.pointer a) (.pointer none)).run P w=.ok a.isNone w:=by
    intro d;cases a<;>simp[Op.equalIn,run_underlying D]
   exact this 9999
  have B:∀{a:Option Addr} {b:Bool},v=.pointer a->a.isNone=b->SR P w G .nilP v'->M1 op b=some r->u.wr=[]/\∃z,((do eqGuard op t x y v v';binOp op t v v':Sem Value)).run P w=.ok z w/\SR P w G u.sv z:=by
   intro a b K Q A i;subst K Q;rw[nilP A];exact dW i L oe oq x y J oe oe oe oe
  split at i
  .rename_i T p;obtain⟨c,k,j⟩:=h;have k:c=[v]:=k;cases p with
   |none=>exact B (a:=none) (AB.1 (k.symm.trans j)) rfl A i
   |some y=>
    obtain⟨H,I,_⟩:=j;grind
  .obtain⟨c,k,H,R,I,_⟩:=h;exact B (a:=some H) (AB.1 ((show c=[v]from k).symm.trans I)) rfl A i
  .obtain⟨c,k,b,U,o,_,_,_,I⟩:=h;exact B (a:=some ⟨b,o,none⟩) (AB.1 ((show c=[v]from k).symm.trans I)) rfl A i
  .grind
  .cases i
 .cases i
theorem ADd{I:SV}{v:Value}(d:cZ op s I=some r)(i:Gives r u)
 (h:SR P w G s v)(o:SR P w G I v')(t:TypeId)(x y:Operand)(q:∀b,s=.val .bool b->P.underlying t=some .bool):
 u.wr=[]/\∃z,((do eqGuard op t x y v v';binOp op t v v':Sem Value)).run P w=.ok z w/\SR P w G u.sv z:=by
 unfold cZ at d;split at d
 .rename_i k a l b;obtain⟨rfl,H⟩:=h.int;obtain⟨rfl,q⟩:=o.int
  have e:∀{z:Value},(binOp op t (.int k a) (.int l b)).run P w=.ok z w->((do eqGuard op t x y (.int k a) (.int l b);binOp op t (.int k a) (.int l b):Sem Value)).run P w=.ok z w:=by
   intro z j;rw[Sem.run_bind,dV oe oq];exact j
  split at d
  .cases d;obtain⟨z,j,rfl⟩:=i.may_inv;obtain⟨A,B⟩:=ADX (P:=P) (w:=w) (l:=l) (t:=t) j;exact⟨rfl,_,e A,SR.mk_int B⟩
  .cases d;obtain⟨z,j,rfl⟩:=i.may_inv;obtain⟨A,B⟩:=ADZ (P:=P) (w:=w) (l:=l) (t:=t) H j;exact⟨rfl,_,e A,SR.mk_int B⟩
  .by_cases hk:NV k l=true
   .rw[hk]at d;have:=TH hk;subst this;obtain⟨C,z,D,E⟩:=AD_ (P:=P) (w:=w) (G:=G) d i H q t;grind
   grind
 .rename_i a b;obtain⟨rfl,_⟩:=h.str;obtain⟨rfl,_⟩:=o.str;obtain⟨C,z,D,E⟩:=ADa (P:=P) (w:=w) (G:=G) d i t;simp_all[Sem.run_bind,dV]
 .rename_i a b;have J:=h.bool;have K:=o.bool;subst J K;obtain⟨C,z,D,E⟩:=ADb (P:=P) (w:=w) (G:=G) d i (q _ rfl);simp_all[Sem.run_bind,dV]
 .cases d
theorem ADe{op:UnOp}{v:Value}(a:o5 op s=some r)(d:Gives r u)(h:SR P w G s v):
 u.wr=[]/\∃z,(Op.unary op v).run P w=.ok z w/\SR P w G u.sv z:=by
 unfold o5 at a;split at a
 .rename_i b;have:=h.bool;subst this;cases op<;>simp only[AO]at a<;>first|(cases a;done)|skip
  subst a;rw[d.v_inv];exact⟨rfl,.bool (!b),by simp[Op.unary],SR.mk_bool _⟩
 .rename_i k n;obtain⟨rfl,_⟩:=h.int;cases op<;>simp only[AO]at a<;>first|(cases a;done)|skip
  subst a;rw[d.v_inv];exact⟨rfl,_,by rfl,SR.mk_int (N4 _ _)⟩
 .cases a
theorem SR.cast{u:Ty}{x:t.T}{y:u.T}{v:Value}(h:Ty.cast? t u x=some y)(a:SR P w G (.val t x) v):SR P w G (.val u y) v:=
 VRel.cast h a
theorem ADf{d e:SV}{v i j:Value}(a:o6 s d e=some r)(o:Gives r u)
 (h:SR P w G s v)(k:v=.bool true->SR P w G d i)(l:v=.bool false->SR P w G e j):
 u.wr=[]/\∃b,v=.bool b/\SR P w G u.sv (if b then i else j):=by
 unfold o6 at a;split at a
 .rename_i c t x q y;split at a
  .rename_i z A;simp only[AO]at a;subst a;rw[o.v_inv];have:=h.bool;subst this;refine⟨rfl,c,rfl,?_⟩;cases c with
   |true=>exact k rfl
   |false=>exact SR.cast A (l rfl)
  .cases a
 .cases a
theorem SV.list_ok:∀{l:SV} {vs:List Value},CR P w G l vs->∀(i:Nat) (s:SV),l.list[i]?=some s->∃v,vs[i]?=some v/\SR P w G s v:=by
 intro l;induction l with
 |scons a b j k=>
  intro vs h i s hi;obtain⟨v,r,rfl,⟨c,d,e⟩,o⟩:=h;cases i with
  |zero=>
   have:a=s:=by simpa[SV.list]using hi
   subst this;exact⟨v,rfl,c,d,e⟩
  |succ i=>
   grind[SV.list]
 |_=>intro vs h i s hi;simp[SV.list]at hi
theorem ADg{v:Value}{i:Nat}(a:oH s i=some r)(x:Gives r u)(h:SR P w G s v):
 u.wr=[]/\∃z,(Instr.extract v i).run P w=.ok z w/\SR P w G u.sv z:=by
 unfold oH at a;split at a
 .rename_i l i;split at a
  .rename_i q o;simp only[AO]at a;subst a;rw[x.v_inv];obtain⟨c,j,y,d,k⟩:=h;have b:c=[v]:=j;rw[b]at d;injection d with h4 _;subst h4;obtain⟨z,e,t⟩:=SV.list_ok k _ _ o;rw[BT]at e;exact⟨rfl,z,by simp[Instr.extract,e],t⟩
  .cases a
 .cases a
theorem pJ{xs:List e.T}{v:Value}(h:VRel w I (.slice e) xs v):
 ∃a b,v=.slice a xs.length b/\HS xs.length b/\(a=none->xs=[]/\b=0)/\
  ∀d,a=some d->(b≠0->d.spot=none)/\∀i x,xs[i]?=some x->∃c,Row w I d.block (d.off+i*e.sz) e.sz c/\Rel w I e x c:=by
 obtain⟨c,j,a,b,l,o,q,r⟩:=h;have k:c=[v]:=j;grind
theorem A1i{xs:List e.T}{a:Option Addr}{cap:Nat}(h:HS xs.length cap)(d:a=none->xs=[]/\cap=0)
 (j:∀b,a=some b->(cap≠0->b.spot=none)/\∀i x,xs[i]?=some x->∃c,Row w I b.block (b.off+i*e.sz) e.sz c/\Rel w I e x c):
 VRel w I (.slice e) xs (.slice a xs.length cap):=⟨_,rfl,a,cap,rfl,h,d,j⟩
theorem at?_some{l:List α}{x:α}(h:at? l i=some x):0<=i/\i.toNat<l.length/\l[i.toNat]?=some x:=by
 grind[at?,decide,List.getElem?_eq_some_iff]
theorem in?_some{x:Unit}(h:in? n i=some x):0<=i/\i.toNat<n:=by
 grind[in?,decide,Bool.and_eq_false_iff]
theorem cut?_some{l r:List α}{lo hi:Int}(h:cut? l lo hi=some r):0<=lo/\lo<=hi/\hi<=l.length/\r=(l.take hi.toNat).drop lo.toNat:=by
 unfold cut? at h;grind
theorem pK(b:UInt8):GK .u8 (b.toNat:Int):=by
 have:=b.toNat_lt;grind[GK,IntKind.min,IntKind.max,IntKind.signed,IntKind.bits]
theorem UB(k:Lay P e id){x:e.T}{cs:Array Value}{off:Nat}(h:Rel w I e x ((cs.toList.drop off).take e.sz))(y:off+e.sz<=cs.size):
 ∃v,(part id cs off).run P w=.ok v w/\VRel w I e x v:=by
 obtain⟨d,t,j⟩:=k.isAgg;obtain⟨i,z,hi,o,_,_,_⟩:=JP k.inf;unfold part isAgg;simp only[Sem.run_bind,run_underlying t,Result.andThen_ok];by_cases b:e.isAgg=true
 .rw[b]at j;refine⟨.agg (cs.extract off (off+e.sz)),?_,((cs.toList.drop off).take e.sz),?_,h⟩
  .have s:P.cellsOf id=e.sz:=by simp[Program.cellsOf,hi,o]
   cases d<;>simp at j<;>simp[run_sizeOf w hi,s]
  .have:(cs.extract off (off+e.sz))=((cs.toList.drop off).take e.sz).toArray:=by
    apply CA;simp[Array.toList_extract,List.extract_eq_take_drop]
   rw[this];cases e<;>simp[Ty.isAgg]at b<;>rfl
 .have a:e.isAgg=false:=by simpa using b
  rw[a]at j;have q:=h.length
  have r:e.sz=1:=by
   cases e<;>first|rfl|(exfalso;simp[Ty.isAgg]at a;done)|(exfalso;simp[Lay,layB]at k;done)
  rw[r]at h y;have l:off<cs.size:=oa
  have A:cs[off]?=some cs[off]:=by simp[l]
  refine⟨cs[off],?_,[cs[off]],?_,?_⟩
  .cases d<;>simp at j<;>simp[A]
  .cases e<;>first|rfl|(exfalso;simp[Ty.isAgg]at a;done)|(exfalso;simp[Lay,layB]at k;done)
  grind[List.drop_eq_getElem_cons]
theorem ADh(hl:P.underlying id=some .string){k:IntKind}{s:DX}(hu:Gives (A1L s i) u):
 u.wr=[]/\∃z,(Instr.index id (.string ⟨s.toArray⟩) (.int k i)).run P w=.ok z w/\SR P w G u.sv z:=by
 obtain⟨b,hb,rfl⟩:=hu.may_inv;obtain⟨h1,h2,h3⟩:=at?_some hb;have h4:i.toNat<(⟨s.toArray⟩:ByteArray).size:=by rw[N5];exact h2
 refine⟨rfl,.int .u8 (b.toNat:Int),?_,SR.mk_int (pK b)⟩;rw[run_index_string w id _ k i hl,dif_pos ⟨h1,oa⟩]
 have:(⟨s.toArray⟩:ByteArray)[i.toNat]'h4=b:=by
  have:=(A9.1 h3).2;rw[<-this];rfl
 rw[this]
theorem ADi(t:Lay P (.arr n e) id){k:IntKind}{xs:List e.T}{v:Value}(A:Gives (A1M e xs i) u)(h:SR P w G (.val (.arr n e) xs) v):
 u.wr=[]/\∃z,(Instr.index id v (.int k i)).run P w=.ok z w/\SR P w G u.sv z:=by
 obtain⟨y,D,rfl⟩:=A.may_inv;obtain⟨J,q,r⟩:=at?_some D;obtain⟨cs,s,d⟩:=h.val;have j:v=.agg cs.toArray:=s;subst j;obtain⟨k1,H,I⟩:=d;obtain⟨el,B,a,_,_⟩:=t.arr;obtain⟨E,z,o,x,_,_,_⟩:=JP a.inf;have l:i.toNat<n:=by rw[<-k1];exact q
 have b:(i.toNat+1)*e.sz<=n*e.sz:=AZ _ l;rw[CK]at b;obtain⟨z,K,C⟩:=UB (P:=P) a (cs:=cs.toArray) (off:=i.toNat*e.sz) (by simpa using I _ _ r) (by simp[H];omega);refine⟨rfl,z,?_,C⟩;unfold Instr.index;simp_all[Program.cellsOf,Sem.run_bind,asIntOf,Sem.run_pure,Result.andThen_ok,run_underlying,if_pos,run_sizeOf]
theorem ADj(d:Lay P t id){k:IntKind}{v:Value}(a:oB t i s=some r)(e:Gives r u)(h:SR P w G s v):
 u.wr=[]/\∃z,(Instr.index id v (.int k i)).run P w=.ok z w/\SR P w G u.sv z:=by
 unfold oB at a;split at a
 .split at a
  .cases a;obtain⟨rfl,_⟩:=h.str;exact ADh d.str e
  .cases a
 .split at a
  .split at a
   .rename_i x b;cases a;exact ADi d e (SR.cast b h)
   .cases a
  .cases a
 .cases a
theorem OZ{v:Value}(h:SR P w G (.obj k g) v):G.val k g=some v:=by
 obtain⟨c,a,v',d,_,e⟩:=h;have b:c=[v]:=a;grind
theorem pL{v:Value}(h:SR P w G (.obj k g) v):v.oneCell'=true:=by
 obtain⟨c,a,v',_,d,e⟩:=h;have b:c=[v]:=a;grind
theorem ADk{v:Value}(h:G.val k g=some v)(a:v.oneCell'=true):SR P w G (.obj k g) v:=⟨_,rfl,v,h,a,rfl⟩
theorem SlOK.shape{el:Nat}{xs:List t.T}{wr:Bool}{v:Value}(h:SlOK fr w I el t xs wr v):∃a d,v=.slice a xs.length d/\xs.length<=281474976710656:=by
 rcases h with⟨rfl,rfl⟩|⟨b,d,cs,rfl,h,_⟩
 .simp
 .exact⟨_,_,rfl,h.2⟩
theorem ADl(R:Lay P t id)(X:∀k o,σ k=some o->ObjOK P fr w G k o){v:Value}
 (d:oD σ t s=some r)(hu:Gives r u)(h:SR P w G s v)(K:Array TypeId)(B:K[0]?=some id)(ty:TypeId):
 u.wr=[]/\∃z,(Builtin.len_ K ty #[v]).run P w=.ok z w/\SR P w G u.sv z:=by
 have inn:∀{n:Nat},n<=281474976710656->GK .i64 (n:Int):=by
  intro n h;constructor<;>simp[IntKind.min,IntKind.max,IntKind.signed,IntKind.bits]<;>omega
 have Q:∀{n:Nat},r=XE n->n<=281474976710656->(Builtin.len_ K ty #[v]).run P w=.ok (.int .i64 (n:Int)) w->u.wr=[]/\∃z,(Builtin.len_ K ty #[v]).run P w=.ok z w/\SR P w G u.sv z:=by
  intro n i M D;subst i;rw[hu.v_inv];exact⟨rfl,_,D,SR.mk_int (inn M)⟩
 have nk:∀{n:Nat},r=A1N n->(Builtin.len_ K ty #[v]).run P w=.ok (.int .i64 (n:Int)) w->u.wr=[]/\∃z,(Builtin.len_ K ty #[v]).run P w=.ok z w/\SR P w G u.sv z:=by
  intro n i D;subst i;obtain⟨y,hy,rfl⟩:=hu.may_inv;unfold len? at hy;cases N:Nat.ble n 281474976710656 with
  |false=>grind
  |true=>
   rw[N]at hy;cases hy;exact⟨rfl,_,D,SR.mk_int (inn (C9 N))⟩
 unfold oD at d;split at d
 .split at d
  .rename_i s;cases d;obtain⟨rfl,Y⟩:=h.str;refine Q rfl Y ?_;simp[Builtin.len_,B,run_underlying R.str,goInt];rfl
  .cases d
 .rename_i n e;cases N:Nat.ble n 281474976710656 with
  |false=>grind
  |true=>
  rw[N]at d;cases d;obtain⟨el,l,_,_,_⟩:=R.arr;refine Q rfl (C9 N) ?_;simp[Builtin.len_,B,run_underlying l,goInt]
 .rename_i e;obtain⟨el,l,h0,_⟩:=R.slice
  have I:∀{a:Option Addr} {n A:Nat},v=.slice a n A->(Builtin.len_ K ty #[v]).run P w=.ok (.int .i64 (n:Int)) w:=by
   intro a n A L;subst L;simp[Builtin.len_,B,run_underlying l,goInt]
  split at d
  .rename_i k g;split at d
   .rename_i e' xs g' wr hk;cases H:Nat.beq g g' with
    |false=>grind
    |true=>
     rw[H]at d;cases d;have:=A3 H;subst this;obtain⟨_,v',i,D⟩:=X _ _ hk;rw[OZ h]at i;cases i;obtain⟨a,A,L,E⟩:=D.shape;exact Q rfl E (I L)
   .rename_i h8 r' t' xs gk hh wr hk;cases H:Nat.beq g 0 with
    |false=>grind
    |true=>
     rw[H]at d;cases d;have:=A3 H;subst this;obtain⟨a,A,i,E⟩:=DpOK.shape (xs:=xs) (X _ _ hk);rw[OZ h]at i;exact Q rfl E (I (A2 i))
   .cases d
  .cases d;obtain⟨c,hc,a,A,i,D⟩:=h;have L:v=_:=AB.1 ((show c=[v]from hc).symm.trans i);grind
  .split at d
   .rename_i xs Z;cases d;obtain⟨a,A,L,E,_⟩:=pJ (K8 Z h);exact Q rfl E.2 (I L)
   .cases d
 .rename_i ka kb;obtain⟨ia,ib,l,_,_⟩:=R.map;split at d
  .rename_i k g;split at d
   .rename_i h9 x0 es hk;cases H:Nat.beq g 0 with
    |false=>grind
    |true=>
     rw[H]at d;cases d;have:=A3 H;subst this;obtain⟨v',i,b,C,j,D,M,⟨V,_⟩,_⟩:=X _ _ hk;rw[OZ h]at i;cases i;subst D;refine nk rfl ?_;have J:(getObj b).run P w=.ok (.map C j) w:=by simp[getObj,Sem.run,M]
     simp[Builtin.len_,B,run_underlying l,J,goInt,V]
   .cases d
  .rename_i q x;split at d
   .rename_i es W;cases d;obtain⟨c,i,O⟩:=(SR.cast W h).val;obtain⟨rr,D,M,V⟩:=O;have T:c=[v]:=i;rw[T]at D;injection D with h5 _;subst h5;refine nk rfl ?_;cases rr with
    |none=>
     have U:=M rfl;have hn:List.length (show List (ka.T×kb.T)from es)=0:=by rw[U];rfl
     simp[Builtin.len_,B,run_underlying l,goInt];grind
    |some b=>
     obtain⟨_,C,j,h6,⟨h7,_⟩,_⟩:=V b rfl;have J:(getObj b).run P w=.ok (.map C j) w:=by simp[getObj,Sem.run,h6]
     simp[Builtin.len_,B,run_underlying l,J,goInt];grind
   .cases d
  .cases d
 .cases d
def K_(P:Program)(w:World)(G:Gh):Option SV->Option Value->Prop
 |some s,some x=>SR P w G s x
 |none,none=>True
 |_,_=>False
theorem O3{b:Option SV}{v:Option Value}{d n:Int}(a:PT b d=some n)(h:K_ P w G b v):
 (v=none/\n=d)\/∃k,v=some (.int k n):=by
 unfold PT at a;split at a
 .rename_i k m;cases v with
  |none=>exact absurd h id
  |some x=>
   obtain⟨rfl,_⟩:=SR.int h;grind
 .cases v with
  |none=>grind
  |some x=>exact absurd h id
 .cases a
theorem XY{isS:Bool}{len cap:Nat}{lo hi:Option Value}{l h:Int}(d:(lo=none/\l=0)\/∃k,lo=some (.int k l))(e:(hi=none/\h=len)\/∃k,hi=some (.int k h))
 (b:0<=l)(a:l<=h)(i:h<=cap):(Instr.sliceBounds isS len cap lo hi none).run P w=.ok (l.toNat,h.toNat,cap) w:=by
 have j:h.toNat<=cap:=oa
 rcases d with⟨rfl,rfl⟩|⟨k,rfl⟩<;>rcases e with⟨rfl,rfl⟩|⟨o,rfl⟩
 .rfl
 .simp_all[Instr.sliceBounds,Instr.sliceBound,asIntOf]
 .simp[Instr.sliceBounds,Instr.sliceBound,asIntOf,b,a]
 .simp[Instr.sliceBounds,Instr.sliceBound,asIntOf,b,show 0<=h by omega,i];omega
theorem ADm(t:P.underlying id=some .string){s:DX}(B:s.length<=281474976710656)
 (h:oE s lo hi=some r)(v:Gives r u)(e:K_ P w G lo vlo)(d:K_ P w G hi vhi):
 u.wr=[]/\∃z,(Instr.sliceAt id (.string ⟨s.toArray⟩) vlo vhi none).run P w=.ok z w/\SR P w G u.sv z:=by
 unfold oE at h;split at h
 .rename_i l j b a;cases h;obtain⟨y,x,rfl⟩:=v.may_inv;obtain⟨k,o,A,q⟩:=cut?_some x;have i:=XY (P:=P) (w:=w) (isS:=false) (len:=s.length) (cap:=s.length) (O3 b e) (O3 a d) k o oa;refine⟨rfl,.string ((⟨s.toArray⟩:ByteArray).extract l.toNat j.toNat),?_,?_⟩
  .simp only[Instr.sliceAt,Sem.run_bind,run_underlying t,Result.andThen_ok,Instr.slice,Option.isSome_none,D1,CL];rw[N5,i];rfl
  .have:(⟨s.toArray⟩:ByteArray).extract l.toNat j.toNat=⟨y.toArray⟩:=by
    apply ByteArray.ext;rw[ByteArray.data_extract];apply CA;rw[q];simp only[List.extract_toArray,List.extract_eq_take_drop];rw[DJ]
   grind[SR.mk_str,List.length_drop,List.length_take]
 .cases h
theorem ADn(O:Lay P (.slice e) id){xs:List e.T}{v:Value}
 (s:TY e xs lo hi=some r)(R:Gives r u)(h:VRel w G.im (.slice e) xs v)(C:K_ P w G lo vlo)(A:K_ P w G hi vhi):
 u.wr=[]/\∃z,(Instr.sliceAt id v vlo vhi none).run P w=.ok z w/\SR P w G u.sv z:=by
 obtain⟨el,T,B,_⟩:=O.slice;obtain⟨V,z0,k,o,_,_,_⟩:=JP B.inf;have N:P.cellsOf el=e.sz:=by simp[Program.cellsOf,k,o]
 unfold TY at s;split at s
 .rename_i l H x t;cases s;obtain⟨y,U,rfl⟩:=R.may_inv;obtain⟨K,L,Y,M⟩:=cut?_some U;obtain⟨a,b,rfl,⟨k1,W⟩,k2,X⟩:=pJ h;have Q:=XY (P:=P) (w:=w) (isS:=true) (len:=xs.length) (cap:=b) (O3 x C) (O3 t A) K L oa;have i:y.length=H.toNat-l.toNat:=by rw[M];simp only[BU,AY];omega
  refine⟨rfl,.slice (if b=l.toNat then a else a.map (·.add (l.toNat*e.sz))) (H.toNat-l.toNat) (b-l.toNat),?_,?_⟩
  .simp_all[Instr.sliceAt,Sem.run_bind,run_underlying,Result.andThen_ok,Instr.slice,run_sizeOf]
  .rw[<-i];refine A1i ⟨oa,oa⟩ ?_ ?_
   .intro D
    have:a=none:=by
     split at D
     .exact D
     .cases a<;>first|rfl|(simp at D)
    grind
   .intro J d;by_cases j:b=l.toNat
    .grind
    .rw[if_neg j]at d;cases a with
     |none=>simp at d
     |some q=>
      simp only[BH,AO]at d;obtain⟨E,q2⟩:=X q rfl;have q1:=E oa
      have I:J=⟨q.block,q.off+l.toNat*e.sz,none⟩:=by
       rw[<-d];unfold Addr.add;split
       .rename_i Z;cases q;grind
       .rfl
      grind
 .cases s
theorem ADo(j:Lay P t id)(q:∀k o,σ k=some o->ObjOK P fr w G k o){v:Value}
 (a:oG σ t s lo hi=some r)(l:Gives r u)(h:SR P w G s v)(d:K_ P w G lo vlo)(b:K_ P w G hi vhi):
 u.wr=[]/\∃z,(Instr.sliceAt id v vlo vhi none).run P w=.ok z w/\SR P w G u.sv z:=by
 unfold oG at a;split at a
 .split at a
  .obtain⟨rfl,e⟩:=h.str;exact ADm j.str e a l d b
  .cases a
 .split at a
  .rename_i x i;exact ADn j a l (K9 q i h) d b
  .cases a
 .cases a
theorem Lay.sz_pos(h:Lay P t id):0<t.sz:=by
 cases t with
 |agg p=>obtain⟨_,_,_,h⟩:=h.agg;exact h
 |arr n e=>obtain⟨_,_,_,d,i⟩:=h.arr;exact Nat.mul_pos oa d
 |prod a b=>simp[Lay,layB]at h
 |unit=>simp[Lay,layB]at h
 |_=>exact Nat.one_pos
theorem Lay.cells(h:Lay P t id):∃i,P.info? id=some i/\P.cellsOf id=t.sz:=by
 obtain⟨i,_,hi,a,_⟩:=JP h.inf;grind[Program.cellsOf]
theorem XZ(i:Lay P (.agg p) id){u:Ty}(k:p.sub (GJ p.fields f)=some u)(e:f<p.fields):
 ∃fs F o,P.underlying id=some (.struct fs)/\fs[f]?=some F/\p.off (GJ p.fields f)=some o/\F.offset=o/\Lay P u F.type:=by
 obtain⟨fs,j,d,_⟩:=i.agg;obtain⟨a,b⟩:=XX d;have h:f<fs.toList.length:=by rw[a];exact e
 obtain⟨s,o,k1,l,q,r⟩:=b f _ (A1 h);simp_all
theorem ADp(l:Lay P (.agg p) id)(k:f<p.fields){v:Value}(b:oI p f s=some r)(A:Gives r u)(h:SR P w G s v):
 u.wr=[]/\∃z,(Instr.field id v f).run P w=.ok z w/\SR P w G u.sv z:=by
 unfold oI at b;split at b
 .rename_i q x;split at b
  .rename_i L x;split at b
   .rename_i y C;split at b
    .rename_i t z D;cases b;rw[A.v_inv];obtain⟨cs,j,d⟩:=h.val;have e:v=.agg cs.toArray:=j;subst e;have a:Rel w G.im p y cs:=Rel.cast (t:=L) C d;obtain⟨o,k1,H,N,I⟩:=UA a D;obtain⟨fs,F,R,O,Q,i,J,K⟩:=XZ l H k;rw[k1]at i;cases i;subst J;obtain⟨M,E,B⟩:=UB (P:=P) K (cs:=cs.toArray) (off:=F.offset) (by simpa using I) (by simp[a.length];omega);refine⟨rfl,M,?_,B⟩;simp_all[Instr.field,Sem.run_bind,run_underlying,Result.andThen_ok,asAgg,Sem.run_pure]
    .cases b
   .cases b
  .cases b
 .cases b
theorem LG:(⟨b,o,none⟩:Addr).add n=⟨b,o+n,none⟩:=by
 grind[Addr.add]
theorem ADq{u:Ty}{F:Field}(h:Lay P u F.type)(a:Addr):(fieldPlace a F).run P w=.ok (a.add F.offset) w:=by
 obtain⟨i,hi,d⟩:=h.cells;have:=h.sz_pos;have b:P.cellsOf F.type≠0:=oa
 simp[fieldPlace,run_sizeOf w hi,b]
theorem ADr:∀{p:List Bool} {t u:Ty} {o:Nat} {q:List Bool},t.off p=some o->t.sub p=some u->t.off (p++q)=(u.off q).map (o + ·)/\t.sub (p++q)=u.sub q:=by
 intro p;induction p with
 |nil=>
  intro t u o q h e;have k:t=u:=by cases t<;>exact A2 e
  have j:0=o:=by cases t<;>exact A2 h
  subst k j;simp
 |cons i r s=>
  intro t;induction t with
  |prod a b=>
   intro u o q h e;cases i with
   |false=>exact s (t:=a) h e
   |true=>
    simp only[Ty.off,A8]at h;cases l:b.off r with
    |none=>grind
    |some x=>
     rw[l]at h;cases h;obtain⟨k1,w⟩:=s (t:=b) (q:=q) l e;refine⟨?_,w⟩;simp only[List.cons_append,Ty.off,A8,k1];cases u.off q<;>simp[C_]
  |agg d v=>assumption
  |_=>intro u o q h e;cases h
theorem ADs{p:List Bool}{u:Ty}(h:G.box k=some (b,t))(a:t.off p=some o)(d:N3 t p u):
 SR P w G (.ptr k p u) (.pointer (some ⟨b,o,none⟩)):=⟨_,rfl,b,t,o,h,a,d,rfl⟩
theorem JD{p:List Bool}{u:Ty}{v:Value}(h:SR P w G (.ptr k p u) v):
 ∃b t o,G.box k=some (b,t)/\t.off p=some o/\N3 t p u/\v=.pointer (some ⟨b,o,none⟩):=by
 obtain⟨c,a,b,t,o,e,i,j,l⟩:=h;have d:c=[v]:=a;grind
theorem dX{i:Nat}{p:List Bool}{u:Ty}{v:Value}(h:SR P w G (.ptri k p i q u) v):
 ∃b t o n e a,G.box k=some (b,t)/\t.off p=some o/\N3 t p (.arr n e)/\i<n/\e.off q=some a/\N3 e q u/\v=.pointer (some ⟨b,o+i*e.sz+a,none⟩):=by
 obtain⟨c,d,b,t,o,n,e,a,l,r,s,x,y,z,A⟩:=h;have j:c=[v]:=d;grind
theorem O_{i:Nat}{u:Ty}{v:Value}(h:SR P w G (.elem k g i q u) v):
 ∃b o len a e d,G.val k g=some (.slice (some ⟨b,o,none⟩) len a)/\G.ety k=some e/\i<len/\e.off q=some d/\N3 e q u/\v=.pointer (some ⟨b,o+i*e.sz+d,none⟩):=by
 obtain⟨c,j,b,o,len,a,e,d,r,s,t,x,y,z⟩:=h;have l:c=[v]:=j;grind
theorem RP{x:t.T}{v:Value}(h:SR P w G (.ref t x) v):∃a c,v=.pointer (some a)/\a.spot=none/\Row w G.im a.block a.off t.sz c/\Rel w G.im t x c:=by
 obtain⟨d,b,a,c,i,j,k,l⟩:=h;have e:d=[v]:=b;grind
theorem Ty.bare_same{u:Ty}(h:u.bare.same p=true):u.bare=p:=Ty.same_eq h
theorem ADt{u:Ty}(h:u.bare=p)(q:List Bool):u.off q=p.off q/\(q≠[]->u.sub q=p.sub q):=by
 subst h;cases q with
 |nil=>exact⟨by cases u<;>first|rfl|(rename_i t;cases t<;>rfl),λh=>absurd rfl h⟩
 |cons i r=>grind[Ty.off_bare,Ty.sub_bare]
theorem ADu{u v:Ty}(h:u.bare=p)(a:p.sub q=some v):∃v',u.sub q=some v'/\(v'=v\/(q=[]/\v'.bare=v)):=by
 subst h;cases q with
 |nil=>
  have:u.bare=v:=by cases b:u.bare<;>(rw[b]at a;exact A2 a)
  exact⟨u,by cases u<;>rfl,.inr ⟨rfl,this⟩⟩
 |cons i r=>exact⟨v,by rw[Ty.sub_bare];exact a,.inl rfl⟩
theorem Row.sub{m:Nat}{c:List Value}(h:Row w I b o n c)(hk:k+m<=n):Row w I b (o+k) m ((c.drop k).take m):=
 ⟨by rw [AY,BU,h.len]; omega,λj e=>by
  obtain⟨a,d⟩:=h.at_ (k+j) oa;grind⟩
theorem ADv(h:GJ n f=[]):n<=1:=by
 cases n with
 |zero=>omega
 |succ n=>cases n with
  |zero=>omega
  |succ n=>cases f<;>simp[GJ]at h
theorem pM{u v:Ty}(l:XC p=true)(k:t.off q=some o)(r:N3 t q u)(i:u.bare=p)(s:p.sub (GJ p.fields f)=some v)(y:f<p.fields)
 {d:Nat}(hof:p.off (GJ p.fields f)=some d):
 t.off (q++GJ p.fields f)=some (o+d)/\N3 t (q++GJ p.fields f) v:=by
 obtain⟨x,b,e⟩:=r;have h:x.bare=p:=e.trans i;obtain⟨k1,z⟩:=ADr (q:=GJ p.fields f) k b;obtain⟨A,_⟩:=ADt h (GJ p.fields f);obtain⟨v',B,w⟩:=ADu h s;refine⟨oc,v',oc,?_⟩;rcases w with rfl|⟨a,j⟩
 .rfl
 .have b:p.fields=1:=by have:=ADv a;omega
  grind[Option.some.inj,XC,Nat.beq,Ty.same_eq]
theorem ADw{u:Ty}{x a:u.T}:(MW u t x).isSome=(MW u t a).isSome:=by
 unfold MW;grind[Ty.cast?]
theorem at_some:∀{l:List Bool} {t:Ty} {x d:t.T},(Ty.at t l x).isSome=(Ty.at t l d).isSome:=by
 intro l;induction l with
 |nil=>intro t x d;cases t<;>rfl
 |cons b l i=>
  intro t x d;cases t with
  |prod a c=>cases b<;>exact i
  |agg q=>
   cases q with
   |prod a c=>cases b<;>exact i
   |_=>rfl
  |_=>rfl
theorem ADx{z z':e.T}:(N2 p f (.ref e z)).isSome=(N2 p f (.ref e z')).isSome:=by
 unfold N2;cases XC p with
 |false=>rfl
 |true=>
  simp only[A8];grind[ADw,MW,at_some,GJ,Ty.at]
theorem A1j(Q:Lay P (.agg p) id)(E:f<p.fields){Y:SV}{v:Value}(a:N2 p f s=some Y)(h:SR P w G s v):
 ∃z,(Instr.fieldAt id v f).run P w=.ok z w/\SR P w G Y z:=by
 unfold N2 at a;cases B:XC p with
 |false=>grind
 |true=>
 rw[B]at a;simp only[A8]at a
 have D:∀{b o:Nat} {F:Field} {fs:Array Field} {u:Ty},P.underlying id=some (.struct fs)->fs[f]?=some F->Lay P u F.type->
  (Instr.fieldAt id (.pointer (some ⟨b,o,none⟩)) f).run P w=.ok (.pointer (some ⟨b,o+F.offset,none⟩)) w:=by
  intro b o F fs u j A l;simp only[Instr.fieldAt,Sem.run_bind,run_underlying j,Result.andThen_ok,A,Instr.sureAddr,Sem.run_pure,ADq l,LG]
 split at a
 .rename_i k q u;split at a
  .rename_i O;cases d:p.sub (GJ p.fields f)with
   |none=>grind
   |some X=>
    rw[d]at a;cases a;obtain⟨fs,F,N,H,I,C,R,J⟩:=XZ Q d E;obtain⟨b,t,o,j,A,l,rfl⟩:=JD h;grind[pM,Ty.bare_same,ADs]
  .cases a
 .rename_i k q i r u;split at a
  .rename_i O;cases d:p.sub (GJ p.fields f)with
   |none=>grind
   |some X=>
    rw[d]at a;cases a;obtain⟨fs,F,N,H,I,C,R,J⟩:=XZ Q d E;obtain⟨b,t,o,n,e,W,j,A,l,U,V,h6,rfl⟩:=dX h;obtain⟨k1,M⟩:=pM B V h6 (Ty.bare_same O) d E C;refine⟨_,D H I J,_,rfl,b,t,o,n,e,W+N,j,A,l,U,k1,M,?_⟩;grind
  .cases a
 .rename_i k g i r u;split at a
  .rename_i O;cases d:p.sub (GJ p.fields f)with
   |none=>grind
   |some X=>
    rw[d]at a;cases a;obtain⟨fs,F,N,H,I,C,R,J⟩:=XZ Q d E;obtain⟨b,o1,len,T,e,W,j,A,l,U,V,rfl⟩:=O_ h;obtain⟨k1,M⟩:=pM B U V (Ty.bare_same O) d E C;refine⟨_,D H I J,_,rfl,b,o1,len,T,e,W+N,j,A,l,k1,M,?_⟩;grind
  .cases a
 .rename_i u x;split at a
  .rename_i y hy;split at a
   .rename_i X z hz;cases a;obtain⟨Z,c,rfl,j,A,l⟩:=RP h;have K:Rel w G.im p y c:=U8 (p:=p) hy l;obtain⟨o,k1,M,k3,k4⟩:=UA K hz;obtain⟨fs,F,N,H,I,C,R,J⟩:=XZ Q M E;rw[k1]at C;cases C;obtain⟨bb,oo,sp⟩:=Z;simp only at j;subst j;refine⟨_,D H I J,_,rfl,_,_,rfl,rfl,?_,k4⟩;rw[R];have L:u.sz=p.sz:=by rw[<-l.length,K.length]
    exact A.sub (by rw[L];omega)
   .cases a
  .cases a
 .cases a
theorem pN(z:∀k o,σ k=some o->ObjOK P fr w G k o){v:Value}(h:SR P w G s v):SR P w G (PR σ s) v:=by
 unfold PR;split
 .rename_i k p u;split
  .rename_i t c hk;split
   .rename_i x J;split
    .rename_i y K;obtain⟨b,Q,o,l,i,⟨Y,R,H⟩,rfl⟩:=JD h;obtain⟨E,cs,el,k1,B,C,L,M,N,_⟩:=z _ _ hk;rw[l]at k1;cases k1;obtain⟨X,A,D,U,V,W,O⟩:=XV L M J;rw[i]at D;cases D;have d:=U9 z K O;have a:=d.length
     have r:((cs.toList.drop o).take A.sz).length=A.sz:=by
      rw[AY,BU,BF];omega
     have I:u.sz=A.sz:=by rw[<-a,r]
     refine⟨_,rfl,⟨b,o,none⟩,_,rfl,rfl,⟨a,λj T=>⟨N.2 rfl _ oc,?_⟩⟩,d⟩;simp_all[World.cell?,Option.isSome_none,D1,CL,B4,if_pos,B5,BT]
    .exact h
   .exact h
  .rename_i e x hk;split
   .obtain⟨b,Q,o,l,i,_,rfl⟩:=JD h;obtain⟨E,c,k1,B,C⟩:=z _ _ hk;rw[l]at k1;cases k1;have q:e.off []=some 0:=by cases e<;>rfl
    rw[q]at i;cases i;exact⟨_,rfl,⟨b,0,none⟩,c,rfl,rfl,B,C⟩
   .exact h
  .exact h
 .exact h
theorem ADy(hl:Lay P t id)(ho:∀k o,σ k=some o->ObjOK P fr w G k o){k:IntKind}{v:Value}
 (d:oA σ t i s=some r)(O:Gives r u)(h:SR P w G s v):
 u.wr=[]/\∃z,(Instr.indexAt id v (.int k i)).run P w=.ok z w/\SR P w G u.sv z:=by
 have K:∀{e:Ty} {el:Nat},P.underlying id=some (.slice el)->Lay P e el->∀{C:Addr} {len q:Nat},0<=i->i.toNat<len->
  (Instr.indexAt id (.slice (some C) len q) (.int k i)).run P w=.ok (.pointer (some (C.add (i.toNat*e.sz)))) w:=by
  intro e el l j C len q h0 x1;obtain⟨y0,I,Z⟩:=j.cells;simp only[Instr.indexAt,Sem.run_bind,asIntOf,Sem.run_pure,Result.andThen_ok,run_underlying l];rw[if_pos ⟨h0,oa⟩];simp only[Sem.run_bind,run_sizeOf w I,Z,Result.andThen_ok,Sem.run_pure]
 have B:∀{e:Ty} {U:List e.T} {el:Nat},P.underlying id=some (.slice el)->Lay P e el->VRel w G.im (.slice e) U v->∀{u:Upd},Gives (XD e U i) u->
  u.wr=[]/\∃z,(Instr.indexAt id v (.int k i)).run P w=.ok z w/\SR P w G u.sv z:=by
  intro e U el l j hv u O;obtain⟨y,M,rfl⟩:=O.may_inv;obtain⟨A,D,N⟩:=at?_some M;obtain⟨a,q,rfl,k1,k2,k3⟩:=pJ hv;cases a with
  |none=>grind
  |some C=>
   obtain⟨L,J⟩:=k3 C rfl;obtain⟨c,Z,h8⟩:=J _ _ N;obtain⟨bb,oo,sp⟩:=C;simp only at L;have L:=L (by have:=k1.1;omega);subst L;refine⟨rfl,_,K l j A D,_,rfl,_,c,rfl,?_,?_,h8⟩
   .rw[LG]
   .rw[LG];exact Z
 unfold oA at d;split at d
 .rename_i e;obtain⟨el,l,j,_⟩:=hl.slice;split at d
  .rename_i k' g;split at d
   .rename_i y3 X U g' wr hk;cases E:(Nat.beq g g'&&X.same e)with
    |false=>grind
    |true=>
     rw[E]at d;simp only[A8]at d;simp only[A6]at E;have T:=A3 E.1;have R:=Ty.same_eq E.2;subst T R;obtain⟨H,v',A,D⟩:=ho _ _ hk;rw[OZ h]at A;cases A;cases wr with
     |false=>
      cases d;exact B l j ⟨_,rfl,RO D⟩ O
     |true=>
      cases d;obtain⟨y,M,rfl⟩:=O.may_inv;obtain⟨L,J⟩:=in?_some M;rcases D with⟨rfl,rfl⟩|⟨b,q,cs,rfl,_⟩
      .simp at J
      .refine⟨rfl,_,K l j L J,_,rfl,b,0,U.length,q,X,0,OZ h,H,J,by cases X<;>first|rfl|(rename_i t;cases t<;>rfl),⟨X,by cases X<;>first|rfl|(rename_i t;cases t<;>rfl),rfl⟩,?_⟩;rw[LG];simp
   .rename_i y5 V W U gk hh wr hk;cases E:(Nat.beq g 0&&(E7 V W).same e)with
    |false=>grind
    |true=>
     rw[E]at d;simp only[A8]at d;simp only[A6]at E;have T:=A3 E.1;have R:=Ty.same_eq E.2;subst T R;have h7:=ho _ _ hk;cases wr with
     |false=>
      cases d;obtain⟨v',A,D⟩:=h7;rw[OZ h]at A;cases A;exact B (e:=E7 V W) l j ⟨_,rfl,D⟩ O
     |true=>
      cases d;obtain⟨y,M,rfl⟩:=O.may_inv;obtain⟨L,J⟩:=in?_some M;obtain⟨h0,H,v',us,bs,A,_,_,_,⟨v2,D,_,N⟩,_⟩:=h7;have hv:v'=v2:=(AB.1 D);subst hv;have Y:=A;rw[OZ h]at Y;cases Y;rcases N with⟨N,_⟩|⟨_,rfl,h4,_⟩|⟨_,b,o,q,x0,y2,rfl,h4,_⟩
      .grind
      .grind
      .refine⟨rfl,_,K l j L J,_,rfl,b,o,_,q,E7 V W,0,A,H,J,by cases (E7 V W)<;>first|rfl|(rename_i t;cases t<;>rfl),⟨E7 V W,by cases (E7 V W)<;>first|rfl|(rename_i t;cases t<;>rfl),rfl⟩,?_⟩;rw[LG];simp
   .cases d
  grind[K8]
 .rename_i n e;obtain⟨el,l,j,_,y4⟩:=hl.arr;obtain⟨y0,I,Z⟩:=j.cells
  have Q:∀{C:Addr},0<=i->i.toNat<n->(Instr.indexAt id (.pointer (some C)) (.int k i)).run P w=.ok (.pointer (some (C.add (i.toNat*e.sz)))) w:=by
   intro C h0 x1;simp only[Instr.indexAt,Sem.run_bind,asIntOf,Sem.run_pure,Result.andThen_ok,run_underlying l,Instr.sureAddr];rw[if_pos ⟨h0,oa⟩];simp only[Sem.run_bind,run_sizeOf w I,Z,Result.andThen_ok,Sem.run_pure]
  replace h:=pN ho h
  generalize PR σ s=s at d h;split at d
  .rename_i k' p u';cases E:u'.same (.arr n e)with
   |false=>grind
   |true=>
    rw[E]at d;cases d;have:=Ty.same_eq E;subst this;obtain⟨y,M,rfl⟩:=O.may_inv;obtain⟨L,J⟩:=in?_some M;obtain⟨b,t,o,A,D,N,rfl⟩:=JD h;refine⟨rfl,_,Q L J,_,rfl,b,t,o,n,e,0,A,D,N,J,by cases e<;>first|rfl|(rename_i t;cases t<;>rfl),⟨e,by cases e<;>first|rfl|(rename_i t;cases t<;>rfl),rfl⟩,?_⟩;rw[LG];simp
  .rename_i u' x;split at d
   .rename_i U h9;cases d;obtain⟨y,M,rfl⟩:=O.may_inv;obtain⟨A,D,N⟩:=at?_some M;obtain⟨C,c,rfl,k1,k2,k3⟩:=RP h;have x2:u'.sz=(Ty.arr n e).sz:=by obtain⟨ee,_⟩:=Ty.cast?_some h9;rw[ee]
    have y1:=Rel.cast h9 k3;obtain⟨m1,m2,m3⟩:=y1;obtain⟨bb,oo,sp⟩:=C;simp only at k1;subst k1;have h5:i.toNat<n:=by rw[<-m1];exact D
    have h6:(i.toNat+1)*e.sz<=n*e.sz:=AZ _ h5;rw[CK]at h6;refine⟨rfl,_,Q A h5,_,rfl,_,_,rfl,?_,?_,m3 _ _ N⟩
    .rw[LG]
    .rw[LG];exact k2.sub (by rw[x2];assumption)
   .cases d
  .cases d
 .cases d
theorem ADz(R:Lay P (.arr n e) id)(T:n<=281474976710656){xs:List e.T}{b o:Nat}{c:List Value}(k2:Row w G.im b o (n*e.sz) c)(k3:Rel w G.im (.arr n e) xs c)
 
 (q:TY e xs lo hi=some r)(W:Gives r u)(H:K_ P w G lo vlo)(C:K_ P w G hi vhi):
 u.wr=[]/\∃z,(Instr.sliceAt id (.pointer (some ⟨b,o,none⟩)) vlo vhi none).run P w=.ok z w/\SR P w G u.sv z:=by
 obtain⟨el,X,E,_,U⟩:=R.arr;obtain⟨Z,L,hc⟩:=E.cells;obtain⟨t,m2,I⟩:=k3;have t:xs.length=n:=t;have I:∀(i:Nat) (x:e.T),xs[i]?=some x->Rel w G.im e x ((c.drop (i*e.sz)).take e.sz):=I;unfold TY at q;split at q
 .rename_i l J B A;cases q;obtain⟨y,Y,rfl⟩:=W.may_inv;obtain⟨M,N,O,K⟩:=cut?_some Y;have h:=O3 A C;rw[t]at h O;have V:=XY (P:=P) (w:=w) (isS:=false) (len:=n) (cap:=n) (O3 B H) h M N oa;have a:y.length=J.toNat-l.toNat:=by rw[K];simp only[BU,AY];omega
  refine⟨rfl,.slice (some (if n=l.toNat then⟨b,o,none⟩else(Addr.mk b o none).add (l.toNat*e.sz))) (J.toNat-l.toNat) (n-l.toNat),?_,?_⟩
  .simp_all[Instr.sliceAt,Sem.run_bind,run_underlying,Result.andThen_ok,Instr.sureAddr,Sem.run_pure,run_sizeOf]
  .rw[<-a];refine A1i ⟨oa,oa⟩ (λQ=>by cases Q) ?_;intro ad v;cases v;by_cases d:n=l.toNat
   .grind
   .rw[if_neg d,LG];refine⟨λ_=>rfl,λi x s=>?_⟩
    have k:xs[l.toNat+i]?=some x:=by
     rw[K,B5,B4]at s;split at s
     .exact s
     .cases s
    have D:l.toNat+i<n:=by rw[<-t];exact(A9.1 k).1
    have j:(l.toNat+i+1)*e.sz<=n*e.sz:=AZ _ D;rw[CK]at j;refine⟨_,?_,I _ _ k⟩;have:o+l.toNat*e.sz+i*e.sz=o+(l.toNat+i)*e.sz:=by rw[CV,C_]
    show Row w G.im b (o+l.toNat*e.sz+i*e.sz) e.sz _;rw[this];exact k2.sub oa
 .cases q
theorem AE0(q:Lay P t id)(A:∀k o,σ k=some o->ObjOK P fr w G k o){v:Value}
 (a:dA σ t s lo hi=some r)(B:Gives r u)(h:SR P w G s v)(d:K_ P w G lo vlo)(b:K_ P w G hi vhi):
 u.wr=[]/\∃z,(Instr.sliceAt id v vlo vhi none).run P w=.ok z w/\SR P w G u.sv z:=by
 unfold dA at a;split at a
 .rename_i n e
  replace h:=pN A h
  generalize PR σ s=s at a h;split at a
  .rename_i I x;split at a
   .rename_i L i;cases y:Nat.ble n 281474976710656 with
    |false=>grind
    |true=>
     rw[y]at a;simp only[A8]at a;obtain⟨D,c,rfl,k1,C,H⟩:=RP h;have j:I.sz=(Ty.arr n e).sz:=by obtain⟨E,_⟩:=Ty.cast?_some i;rw[E]
     have l:=Rel.cast i H;obtain⟨J,K,sp⟩:=D;simp only at k1;subst k1;rw[j]at C;exact ADz q (C9 y) C l a B d b
   .cases a
  .cases a
 .exact ADo q A a B h d b
end
def Ty.dep:Ty->Nat
 | .agg t=>t.dep+1
 | .prod a b=>a.dep+b.dep
 |_=>0
def eqTB(P:Program):Ty->(Nat->Bool)×(List Field->Bool)
 | .prod a b=>(λ_=>false,λl=>match l with
  |f::r=>f.name != "_" && ((eqTB P a).1 f.type&&(eqTB P b).2 r)
  |[]=>false)
 | .unit=>(λ_=>false,λl=>match l with|[]=>true|_=>false)
 | .bool=>one λ_=>true
 | .int _=>one λ_=>true
 | .str=>one λ_=>true
 | .agg p=>one λid=>!(P.stoodInHeld id)&&(match P.underlying id with|some (.struct fs)=>(eqTB P p).2 fs.toList|_=>false)
 |_=>(λ_=>false,λ_=>false)
 where
 one (c:Nat->Bool):(Nat->Bool)×(List Field->Bool):=(c,λl=>match l with|[f]=>f.name != "_" && c f.type|_=>false)
section
variable{P:Program}{w:World}{I:Im}
theorem A1k{s:String}(h:(s != "_")=true):s≠"_" :=by simpa using h
theorem AE1:∀{t:Ty},(∀(id d:Nat) (x y:t.T) (v v':Value) (b:Bool),Lay P t id->(eqTB P t).1 id=true->VRel w I t x v->VRel w I t y v'->Ty.beq t x y=some b->t.dep<d->
 (Op.equalIn d id v v').run P w=.ok b w)/\
 (∀ (l:List Field) (off d:Nat) (x y:t.T) (cs e:Array Value) (b:Bool),(layB P t).2 l off=true->(eqTB P t).2 l=true->Rel w I t x ((cs.toList.drop off).take t.sz)->Rel w I t y ((e.toList.drop off).take t.sz) ->
  off+t.sz<=cs.size->off+t.sz<=e.size->Ty.beq t x y=some b->t.dep<d->(Op.eqFields d cs e l).run P w=.ok b w):=by
 intro t
 have s:∀{t:Ty} {c:Nat->Bool} {k:TypeDesc->Bool},(layB P t).2=(layB.one P t k).2->(eqTB P t).2=(eqTB.one c).2->(∀id,(layB.one P t k).1 id=true->Lay P t id)->(∀id,c id=true->(eqTB P t).1 id=true)->
  (∀ (id d:Nat) (x y:t.T) (v v':Value) (b:Bool),Lay P t id->(eqTB P t).1 id=true->VRel w I t x v->VRel w I t y v'->Ty.beq t x y=some b->t.dep<d ->
  (Op.equalIn d id v v').run P w=.ok b w)->
  ∀(l:List Field) (off d:Nat) (x y:t.T) (cs e:Array Value) (b:Bool),(layB P t).2 l off=true->(eqTB P t).2 l=true->Rel w I t x ((cs.toList.drop off).take t.sz)->Rel w I t y ((e.toList.drop off).take t.sz)->
  off+t.sz<=cs.size->off+t.sz<=e.size->Ty.beq t x y=some b->t.dep<d->(Op.eqFields d cs e l).run P w=.ok b w:=by
  intro t c k B H L hc A l off d x y cs e b i j V W Y Z o C;rw[B]at i;rw[H]at j;simp only[layB.one]at i;split at i
  .rename_i g;simp only[A6]at i;have hg:=A3 i.1;subst hg;simp only[eqTB.one,A6]at j;have D:Lay P t g.type:=L _ (by simp_all[layB.one,A6]);obtain⟨v,T,r2⟩:=UB D V Y;obtain⟨v',q1,q2⟩:=UB D W Z;simp only[Op.eqFields];rw[if_pos (A1k j.1)];simp only[Sem.run_bind,T,Result.andThen_ok,q1,A g.type d x y v v' b D (hc _ j.2) r2 q2 o C];cases b<;>simp
  .cases i
 induction t with
 |bool=>
  have A:∀(id d:Nat) (x y:Bool) (v v':Value) (b:Bool),Lay P .bool id->(eqTB P .bool).1 id=true->VRel w I .bool x v->VRel w I .bool y v'->Ty.beq .bool x y=some b->Ty.dep .bool<d->
   (Op.equalIn d id v v').run P w=.ok b w:=by
   intro id d x y v v' b L _ R q o C;obtain⟨c,i,j⟩:=R;obtain⟨G,O,Q⟩:=q;have B:v=.bool x:=AB.1 ((show c=[v]from i).symm.trans j);have H:v'=.bool y:=AB.1 ((show G=[v']from O).symm.trans Q);subst B H;cases d with
   |zero=>cases C
   |succ d=>
    cases o;simp[Op.equalIn,run_underlying L.bool,KK]
  exact⟨A,s (t:=.bool) (c:=λ_=>true) rfl rfl (λ_ h=>h) (λ_ h=>h) A⟩
 |int k=>
  have A:∀(id d:Nat) (x y:Int) (v v':Value) (b:Bool),Lay P (.int k) id->(eqTB P (.int k)).1 id=true->VRel w I (.int k) x v->VRel w I (.int k) y v'->Ty.beq (.int k) x y=some b->Ty.dep (.int k)<d->
   (Op.equalIn d id v v').run P w=.ok b w:=by
   intro id d x y v v' b L _ R q o C;obtain⟨c,i,j,_⟩:=R;obtain⟨G,O,Q,_⟩:=q;have B:v=.int k x:=AB.1 ((show c=[v]from i).symm.trans j);have H:v'=.int k y:=AB.1 ((show G=[v']from O).symm.trans Q);subst B H;cases d with
   |zero=>cases C
   |succ d=>
    cases o;simp[Op.equalIn,run_underlying L.int,E1]
  exact⟨A,s (t:=.int k) (c:=λ_=>true) rfl rfl (λ_ h=>h) (λ_ h=>h) A⟩
 |str=>
  have A:∀(id d:Nat) (x y:DX) (v v':Value) (b:Bool),Lay P .str id->(eqTB P .str).1 id=true->VRel w I .str x v->VRel w I .str y v'->Ty.beq .str x y=some b->Ty.dep .str<d->
   (Op.equalIn d id v v').run P w=.ok b w:=by
   intro id d x y v v' b L _ R q o C;obtain⟨c,i,j,_⟩:=R;obtain⟨G,O,Q,_⟩:=q;have B:v=.string ⟨x.toArray⟩:=AB.1 ((show c=[v]from i).symm.trans j);have H:v'=.string ⟨y.toArray⟩:=AB.1 ((show G=[v']from O).symm.trans Q);subst B H;cases d with
   |zero=>cases C
   |succ d=>
    cases o;rw[run_equalIn_string w d id _ _ L.str,A1h,A1h];rfl
  exact⟨A,s (t:=.str) (c:=λ_=>true) rfl rfl (λ_ h=>h) (λ_ h=>h) A⟩
 |agg p ih=>
  have A:∀(id d:Nat) (x y:p.T) (v v':Value) (b:Bool),Lay P (.agg p) id->(eqTB P (.agg p)).1 id=true->VRel w I (.agg p) x v->VRel w I (.agg p) y v'->Ty.beq (.agg p) x y=some b->Ty.dep (.agg p)<d->
   (Op.equalIn d id v v').run P w=.ok b w:=by
   intro id d x y v v' b L he R q o C;obtain⟨c,i,j⟩:=R;obtain⟨G,O,Q⟩:=q;have B:v=.agg c.toArray:=i;have H:v'=.agg G.toArray:=O;subst B H;obtain⟨fs,X,h0,_⟩:=L.agg;simp only[eqTB,eqTB.one,X,A6,BP]at he;have h5:P.fieldsOf id=fs:=by simp[Program.fieldsOf,X]
   cases d with
   |zero=>cases C
   |succ d=>
    rw[run_equalIn_struct w d id _ _ oc he.1,h5];have J:Rel w I p x c:=j;have K:Rel w I p y G:=Q;refine ih.2 fs.toList 0 d x y _ _ b h0 he.2 ?_ ?_ ?_ ?_ o (by grind[Ty.dep])
    .simpa[J.length]using (show Rel w I p x (c.take p.sz)from by rw[<-J.length,AG];exact J)
    .simpa[K.length]using (show Rel w I p y (G.take p.sz)from by rw[<-K.length,AG];exact K)
    .simp[J.length]
    .simp[K.length]
  exact⟨A,s (t:=.agg p) (c:=λid=>!(P.stoodInHeld id)&&(match P.underlying id with|some (.struct fs)=>(eqTB P p).2 fs.toList|_=>false)) rfl rfl (λ_ h=>h) (λ_ h=>h) A⟩
 |prod a b h8 h9=>
  refine⟨λid d x y v v' r h=>by simp[Lay,layB]at h,λl off d x y cs e r i j V W Y Z o C=>?_⟩;simp only[layB]at i;split at i
  .rename_i f l;simp only[A6]at i;simp only[eqTB,A6]at j;have hg:=A3 i.1;subst hg;have h7:(Ty.prod a b).sz=a.sz+b.sz:=rfl;rw[h7]at V W Y Z;obtain⟨c1,c2,B,T,r2⟩:=V;obtain⟨M,N,U,E,x2⟩:=W
   have k1:c1=(cs.toList.drop f.offset).take a.sz:=by
    have:((cs.toList.drop f.offset).take (a.sz+b.sz)).take a.sz=(c1++c2).take a.sz:=by rw[B]
    rw[List.take_take,DH oa,<-T.length,List.take_left,T.length]at this;exact this.symm
   have k2:c2=(cs.toList.drop (f.offset+a.sz)).take b.sz:=by
    have:((cs.toList.drop f.offset).take (a.sz+b.sz)).drop a.sz=(c1++c2).drop a.sz:=by rw[B]
    rw[DJ,DK,<-T.length,List.drop_left,T.length]at this;rw[<-this];congr 1;omega
   have x0:M=(e.toList.drop f.offset).take a.sz:=by
    have:((e.toList.drop f.offset).take (a.sz+b.sz)).take a.sz=(M++N).take a.sz:=by rw[U]
    rw[List.take_take,DH oa,<-E.length,List.take_left,E.length]at this;exact this.symm
   have x1:N=(e.toList.drop (f.offset+a.sz)).take b.sz:=by
    have:((e.toList.drop f.offset).take (a.sz+b.sz)).drop a.sz=(M++N).drop a.sz:=by rw[U]
    rw[DJ,DK,<-E.length,List.drop_left,E.length]at this;rw[<-this];congr 1;omega
   obtain⟨v,p1,p2⟩:=UB i.2.1 (k1▸T) oa;obtain⟨v',q1,q2⟩:=UB i.2.1 (x0▸E) oa;simp only[Ty.beq]at o;split at o
   .rename_i u z X hz;have o:=A2 o;subst o;simp only[Ty.dep]at C;simp only[Op.eqFields];rw[if_pos (A1k j.1)];simp only[Sem.run_bind,p1,Result.andThen_ok,q1,h8.1 f.type d x.1 y.1 v v' u i.2.1 j.2.1 p2 q2 X oa];have h6:=h9.2 l (f.offset+a.sz) d x.2 y.2 cs e z i.2.2.1 j.2.2 (k2▸r2) (x1▸x2) oa oa hz oa;cases u
    .simp
    grind
   .cases o
  .cases i
 |unit=>
  refine⟨λid d x y v v' r h=>by simp[Lay,layB]at h,λl off d x y cs e r i j V W Y Z o C=>?_⟩;simp only[layB]at i;split at i
  .cases o;rfl
  .cases i
 |_=>exact⟨λid d x y v v' r _ h=>(ol),λl off d x y cs e r _ h=>(ol)⟩
def P0(P:Program)(t:Ty)(id:Nat):Bool:=(eqTB P t).1 id&&(!(P.eqGuardType P.depth id)&&Nat.blt t.dep 10000)
theorem AE2(k:Lay P t id)(i:∃p,t=.agg p)(hk:P0 P t id=true){x y:t.T}{v:Value}{b:Bool}(hx:VRel w I t x v)(h:VRel w I t y v')(j:Ty.beq t x y=some b){ox oy:Operand}:
 (op=.eql->((do eqGuard op id ox oy v v';binOp op id v v':Sem Value)).run P w=.ok (.bool b) w)/\
 (op=.neq->((do eqGuard op id ox oy v v';binOp op id v v':Sem Value)).run P w=.ok (.bool (!b)) w):=by
 obtain⟨p,rfl⟩:=i;simp only[P0,A6,BP,B_]at hk;have q:=AE1.1 id 10000 x y v v' b k hk.1 hx h j hk.2.2;obtain⟨c,d,_⟩:=hx;obtain⟨a,e,_⟩:=h;have l:v=.agg c.toArray:=d;have o:v'=.agg a.toArray:=e;grind[Sem.run_bind,run_eqGuard_agg,Result.andThen_ok,run_eql_struct,run_neq_struct]
end
end Go.Ev
