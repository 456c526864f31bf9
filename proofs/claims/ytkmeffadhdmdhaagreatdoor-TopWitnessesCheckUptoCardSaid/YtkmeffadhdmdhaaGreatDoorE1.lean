/-
  The evaluator on plain data, and what its operations do in the model, first part: it tells for each operation what the model's run of it gives.
-/
import Derived.KernelRfl
import Derived.MapKept
import Derived.Laws.Concat
import Derived.Laws.Strings3
import Derived.ChangeKeysEq
set_option linter.all false
set_option maxRecDepth 100000
noncomputable section
namespace Go
abbrev KX.{u}(α:Type u):=List α
abbrev X1.{u}(α:Type u):=Option α
abbrev X2:=Value
abbrev X3:=ByteArray
abbrev X4:=World
abbrev X5:=Bool
theorem oa{p:Prop}(h:p:=by omega):p:=h
def oc{p:Prop}(h:p:=by grind):p:=h
def oe{p:Prop}(h:p:=by kernel_rfl):p:=h
def oh{p:Prop}(h:p:=by simp):p:=h
def oi{p:Prop}(h:p:=by decide):p:=h
def om{p:Prop}(h:p:=by cases h):p:=h
def oq{p:Prop}(h:p:=by dsimp only;omega):p:=h
def ot{p:Prop}(h:p:=by simp;omega):p:=h
def ou{p:Prop}(h:p:=by simp[hop]):p:=h
def oz{p:Prop}(h:p:=by simp[hop,Op.operands]):p:=h
theorem qu{p:Prop}(h:p:=by intro h;cases h):p:=h
end Go
namespace Go.Ev
variable{α:Type}{w w' w'':X4}{k b o n f id g:Nat}{gv:Nat->Prop}{cs c1 c2 ds:KX X2}{el:TypeId}{h:X1 (KX Nat)}{dr:X5}{R:X2->X4->Prop}{op:BinOp}{v':X2}{i:Int}{vlo vhi:X1 X2}{q:KX X5}
abbrev A0:=@Option.bind_some
abbrev A1:=@List.getElem?_eq_getElem
abbrev A2:=@Option.some.inj
abbrev A3:=@List.getElem?_eq_some_iff
abbrev A4:=@cond_true
abbrev A5:=@Nat.eq_of_beq_eq_true
abbrev A6:=@decide_eq_true
abbrev A7:=@Bool.and_eq_true
abbrev A8:=@cond_false
abbrev A9:=@decide_eq_false
abbrev AA:=@Nat.lt_irrefl
abbrev AB:=@List.singleton_inj
abbrev AC:=@of_decide_eq_true
abbrev AD:=@Nat.le_refl
abbrev AE:=@List.mem_of_getElem?
abbrev AF:=@List.mem_cons_self
abbrev AG:=@List.getElem_mem
abbrev AH:=@List.getD_eq_getElem?_getD
abbrev AI:=@of_decide_eq_false
abbrev AJ:=@Option.some.injEq
abbrev AK:=@List.eq_nil_of_length_eq_zero
abbrev AL:=@List.length_append
abbrev AM:=@Nat.le_trans
abbrev AN:=@Nat.mul_le_mul_right
abbrev AO:=@List.mem_singleton
abbrev AP:=@List.mem_cons_of_mem
abbrev AQ:=@Nat.lt_of_lt_of_le
abbrev AR:=@List.take_length
abbrev AS:=@List.getElem?_map
abbrev AT:=@Nat.zero_le
abbrev AU:=@Array.getElem?_eq_getElem
abbrev AV:=@Int.le_refl
abbrev AW:=@List.nodup_nil
abbrev AX:=@List.mem_append
abbrev AY:=@List.nodup_cons
abbrev AZ:=@List.length_map
abbrev A_:=@Array.getElem?_toList
abbrev B0:=@List.getElem?_take
abbrev B1:=@List.mem_cons
abbrev B2:=@List.nodup_append
abbrev B3:=@decide_eq_true_eq
abbrev B4:=@List.length_set
abbrev B5:=@List.getElem?_drop
abbrev B6:=@Array.getElem?_eq_some_iff
abbrev B7:=@Bool.not_true
abbrev B8:=@Option.bind_eq_some_iff
abbrev B9:=@List.size_toArray
abbrev BA:=@List.length_replicate
abbrev BC:=@List.getElem?_append_left
abbrev BD:=@Array.length_toList
abbrev BE:=@Int.natCast_nonneg
abbrev BG:=@Option.map_some
abbrev BH:=@Nat.zero_add
abbrev BI:=@List.getElem?_append_right
abbrev BJ:=@Bool.not_false
abbrev BK:=@List.length_take
abbrev BL:=@List.drop_eq_getElem_cons
abbrev BM:=@Bool.not_eq_true'
abbrev BN:=@List.ext_getElem?
abbrev BO:=@List.length_cons
abbrev BP:=@List.mem_map
abbrev BQ:=@Bool.or_eq_false_iff
abbrev BR:=@List.getElem?_of_mem
abbrev BS:=@List.pairwise_iff_getElem
abbrev BT:=@List.mem_append_right
abbrev BU:=@Bool.true_and
abbrev BV:=@Int.toNat_natCast
abbrev BW:=@List.all_eq_true
abbrev BX:=@Classical.byContradiction
abbrev BY:=@List.getElem?_set_self
abbrev BZ:=@List.mem_append_left
abbrev B_:=@Bool.not_eq_true
abbrev C0:=@List.length_drop
abbrev C1:=@Bool.false_or
abbrev C2:=@Nat.blt_eq
abbrev C4:=@List.getElem?_set_ne
abbrev C5:=@Option.getD_some
abbrev C6:=@Nat.succ_mul
abbrev C7:=@Nat.add_mul
abbrev C8:=@List.length_nil
abbrev C9:=@Array.ext'
abbrev CA:=@Nat.mul_le_mul_left
abbrev CC:=@List.mem_range
abbrev CD:=@Bool.or_eq_true
abbrev CE:=@if_false
abbrev CF:=@List.append_assoc
abbrev CG:=@Nat.add_zero
abbrev CH:=@Nat.ble_eq_true_of_le
abbrev CI:=@Nat.mul_one
abbrev CJ:=@Bool.false_eq_true
abbrev CK:=@Array.getD_eq_getD_getElem?
abbrev CL:=@ByteArray.size_extract
abbrev CM:=@beq_iff_eq
abbrev CN:=@Nat.le_of_ble_eq_true
abbrev CP:=@List.length_filter_le
abbrev CQ:=@List.getElem?_eq_none
abbrev CS:=@Nat.beq_refl
abbrev CT:=@List.map_cons
abbrev CU:=@Bool.false_and
abbrev CV:=@List.take_of_length_le
abbrev CW:=@Nat.add_assoc
abbrev CX:=@List.append_nil
abbrev CY:=@Bool.and_eq_true_iff
abbrev CZ:=@decide_eq_false_iff_not
abbrev C_:=@List.pairwise_singleton
abbrev D0:=@Nat.mul_comm
abbrev D1:=@Nat.min_eq_left
abbrev D2:=@List.map_append
abbrev D3:=@List.nil_append
abbrev D4:=@List.mem_filter
abbrev D5:=@List.drop_drop
abbrev D6:=@Nat.le_of_not_lt
abbrev D7:=@Array.getElem?_push_size
abbrev D8:=@List.getElem?_replicate
abbrev D9:=@Prod.mk.injEq
abbrev DA:=@List.drop_zero
abbrev DC:=@Bool.and_eq_false_iff
abbrev DD:=@List.drop_take
abbrev DE:=@false_and
abbrev DF:=@List.pairwise_append
abbrev DG:=@Int.fdiv_eq_ediv_of_nonneg
abbrev DH:=@List.mem_take_iff_getElem
abbrev DI:=@Nat.eq_zero_or_pos
abbrev DJ:=@List.take_take
abbrev DK:=@List.drop_of_length_le
abbrev DL:=@Array.getElem?_push_lt
abbrev DM:=@Bool.and_true
abbrev DN:=@Array.toList_map
def AFj:∀(m:Ask α) (w:X4),w.drawn<=(w.ask m).2.drawn:=by
 intro m;induction m with
 |done a=>intro w;exact AD _
 |ask q r k b=>
  intro w;simp only[World.ask];split
  .exact b _ _
  .exact AM (Nat.le_succ _) (b _ {w with drawn:=w.drawn+1})
def AFk(w:X4)(c:Sys):w.drawn<=(w.sys c).2.drawn:=by
 unfold World.sys;have h:=AFj (Kernel.perform c w.os) w;split
 .exact AD _
 .rename_i r os w' _ a;rw[a]at h;exact h
def AFl{p:Program}{at_:Addr}{u:TypeId}{k:Addr}{v:X2}{b:X5}{l:KX Addr}(h:w.viewStore p at_ u k v b=.ok (w',l)):w'.drawn=w.drawn:=by
 unfold World.viewStore at h;simp only[bind,Except.bind,pure,Except.pure,throw,throwThe,MonadExceptOf.throw]at h
 repeat' split at h
 all_goals first|(cases h;done)|(cases h;rfl)|skip
def AFm{p:Program}{a:Addr}{v:X2}{b:X5}{l:KX Addr}(h:w.farStore p a v b=.ok (w',l)):w'.drawn=w.drawn:=by
 unfold World.farStore at h;split at h
 .split at h
  .rename_i r d;cases h;exact AFl d
  .cases h
 .cases h
def AFn(w:X4)(a:Addr)(n:Nat):(w.freeze a n).drawn=w.drawn:=by
 unfold World.freeze
 repeat' split
 all_goals rfl
theorem rT{P:Program}:∀(m:Sem α) (w w':X4) (x:α),m.run P w=.ok x w'->w.drawn<=w'.drawn:=by
 intro m;induction m with
 |pure a=>intro w w' x h;simp only[Sem.run]at h;cases h;exact AD _
 |load m a k b=>
  intro w w' x h;simp only[Sem.run]at h;split at h
  .exact b _ _ _ _ h
  .split at h
   .exact b _ _ _ _ h
   .cases h
 |store m a v k b=>
  intro w w' x h;cases v;all_goals simp only[Sem.run]at h
  all_goals first
   |(cases h;done)
   | (split at h
      .split at h
       .cases h
       .exact b (w.setCell _ _) _ _ h
      .split at h
       .rename_i j l d;have:=b _ _ _ h;rw[AFm d]at this;exact this
       .cases h)
 |new o k b=>intro w w' x h;simp only[Sem.run]at h;exact b _ {w with heap:=w.heap.push o} _ _ h
 |shape r k b=>intro w w' x h;simp only[Sem.run]at h;exact b _ _ _ _ h
 |freeze a n k b=>intro w w' x h;simp only[Sem.run]at h;exact AM (Nat.le_of_eq (AFn w a n).symm) (b (w.freeze a n) _ _ h)
 |frozen a k b=>intro w w' x h;simp only[Sem.run]at h;exact b _ _ _ _ h
 |getObj r k b=>
  intro w w' x h;simp only[Sem.run]at h;split at h
  .cases h
  .exact b _ _ _ _ h
  .cases h
 |setObj r o k b=>
  intro w w' x h;simp only[Sem.run]at h;split at h
  .cases h
  .exact b {w with heap:=w.heap.setIfInBounds r o} _ _ h
  .cases h
 |choose q k b=>
  intro w w' x h;simp only[Sem.run]at h;split at h
  .exact b _ _ _ _ h
  .exact AM (Nat.le_succ _) (b _ {w with drawn:=w.drawn+1} _ _ h)
 |sys c k b=>intro w w' x h;simp only[Sem.run]at h;exact AM (AFk w c) (b _ _ _ _ h)
 |program k b=>intro w w' x h;simp only[Sem.run]at h;exact b _ _ _ _ h
 |mark m k b=>intro w w' x h;simp only[Sem.run]at h;exact b _ _ _ h
 |halt e=>intro w w' x h;simp only[Sem.run]at h;cases h
inductive Ty where
 |unit
 |bool
 |int (k:IntKind)
 |str
 |slice (e:Ty)
 |agg (t:Ty)
 |prod (a b:Ty)
 |arr (n:Nat) (e:Ty)
 |ptr (e:Ty)
 |map (k v:Ty)
 |inil
 |ialt (id:Nat) (t r:Ty)
 |self
 |opq
 |hV (d c:Ty)
 deriving Inhabited
variable{p t e:Ty}
abbrev DO:=KX UInt8
def Ty.T:Ty->Type
 | .unit=>Unit
 | .bool=>X5
 | .int _=>Int
 | .str=>KX UInt8
 | .slice e=>KX e.T
 | .agg t=>t.T
 | .prod a b=>a.T×b.T
 | .arr _ e=>KX e.T
 | .ptr e=>X1 e.T
 | .map k v=>KX (k.T×v.T)
 | .inil=>Unit
 | .ialt _ t r=>Sum t.T r.T
 | .self=>Unit
 | .opq=>Unit
 | .hV d c=>X1 (d.T->X1 c.T)
def Ty.Q8:(t:Ty)->t.T
 | .unit=>()
 | .bool=>false
 | .int _=>(0:Int)
 | .str=>([]:KX UInt8)
 | .slice e=>([]:KX e.T)
 | .agg t=>t.Q8
 | .prod a b=>(a.Q8,b.Q8)
 | .arr n e=>List.replicate n e.Q8
 | .ptr e=>(none:X1 e.T)
 | .map k v=>([]:KX (k.T×v.T))
 | .inil=>()
 | .ialt _ _ r=>Sum.inr r.Q8
 | .self=>()
 | .opq=>()
 | .hV d c=>(none:X1 (d.T->X1 c.T))
def ON:IntKind->IntKind->X5
 | .i8,.i8=>true| .i16,.i16=>true| .i32,.i32=>true| .i64,.i64=>true
 | .u8,.u8=>true| .u16,.u16=>true| .u32,.u32=>true| .u64,.u64=>true
 |_,_=>false
theorem V8{a b:IntKind}(h:ON a b=true):a=b:=by cases a<;>cases b<;>first|rfl|cases h
def Ty.same:Ty->Ty->X5
 | .unit,.unit=>true
 | .bool,.bool=>true
 | .int k,.int l=>ON k l
 | .str,.str=>true
 | .slice a,.slice b=>a.same b
 | .agg a,.agg b=>a.same b
 | .prod a b,.prod c d=>a.same c&&b.same d
 | .arr n a,.arr m b=>Nat.beq n m&&a.same b
 | .ptr a,.ptr b=>a.same b
 | .map a b,.map c d=>a.same c&&b.same d
 | .inil,.inil=>true
 | .self,.self=>true
 | .opq,.opq=>true
 | .hV a b,.hV c d=>a.same c&&b.same d
 | .ialt i a b,.ialt j c d=>Nat.beq i j&&(a.same c&&b.same d)
 |_,_=>false
theorem Ty.Z7:∀{a b:Ty},a.same b=true->a=b:=by
 intro a;induction a with
 |unit=>grind[Ty.same]
 |bool=>grind[Ty.same]
 |int k=>intro b h;cases b<;>first|(simp only[Ty.same]at h;rw[V8 h])|(simp[Ty.same]at h)
 |str=>grind[Ty.same]
 |slice e l=>intro b h;cases b<;>first|(simp only[Ty.same]at h;rw[l h])|(simp[Ty.same]at h)
 |agg e l=>intro b h;cases b<;>first|(simp only[Ty.same]at h;rw[l h])|(simp[Ty.same]at h)
 |prod x y d j=>intro b h;cases b<;>first|(simp only[Ty.same,A7]at h;rw[d h.1,j h.2])|(simp[Ty.same]at h)
 |arr n e l=>intro b h;cases b<;>first|(simp only[Ty.same,A7]at h;rw[A5 h.1,l h.2])|(simp[Ty.same]at h)
 |ptr e l=>intro b h;cases b<;>first|(simp only[Ty.same]at h;rw[l h])|(simp[Ty.same]at h)
 |map x y d j=>intro b h;cases b<;>first|(simp only[Ty.same,A7]at h;rw[d h.1,j h.2])|(simp[Ty.same]at h)
 |inil=>grind[Ty.same]
 |self=>grind[Ty.same]
 |opq=>grind[Ty.same]
 |hV x y d j=>intro b h;cases b<;>first|(simp only[Ty.same,A7]at h;rw[d h.1,j h.2])|(simp[Ty.same]at h)
 |ialt i x y d j=>intro b h;cases b<;>first|(simp only[Ty.same,A7]at h;rw[A5 h.1,d h.2.1,j h.2.2])|(simp[Ty.same]at h)
def Ty.cast? (t u:Ty)(x:t.T):X1 u.T:=
 if h:t.same u=true then some (Ty.Z7 h▸x)else none
theorem Ty.cast?_some{u:Ty}{x:t.T}{y:u.T}(h:Ty.cast? t u x=some y):∃e:t=u,e▸x=y:=by grind[Ty.cast?,Ty.Z7,Option.some.inj]
def Ty.sz:Ty->Nat
 | .unit=>0
 | .agg t=>t.sz
 | .prod a b=>a.sz+b.sz
 | .arr n e=>n*e.sz
 |_=>1
inductive SV where
 |undef
 |val (t:Ty) (x:t.T)
 |nilS
 |nilI
 |nilP
 |nilM
 |nilF
 |pr (a b:SV)
 |obj (k g:Nat)
 |ptr (k:Nat) (p:List Bool) (u:Ty)
 |ptri (k:Nat) (p:List Bool) (i:Nat) (q:List Bool) (u:Ty)
 |elem (k g:Nat) (i:Nat) (q:List Bool) (u:Ty)
 |ref (t:Ty) (x:t.T)
 |fn (f:Nat) (caps:SV)
 |hof (nd:Bool) (dom cod:Ty) (F:dom.T->Option cod.T)
 |nns (e:Ty) (x:List e.T)
 |mns (e:Ty) (x:Option (List e.T))
 |snil
 |scons (a b:SV)
 |tup (l:SV)
 |grd (toks:List (Nat×Bool)) (g:Bool) (s:SV)
 |slf (k:Nat)
 |bt (t:Ty) (c:SV)
 |rf0 (t:Ty) (x:t.T)
 |lnS (n:Nat)
 deriving Inhabited
variable{s:SV}{lo hi:X1 SV}
def SV.list:SV->KX SV
 | .scons a b=>a::b.list
 |_=>[]
def SV.ofList:KX SV->SV
 |[]=>.snil
 |a::r=>.scons a (SV.ofList r)
def E5:KX Nat->Ty->Ty
 |[],t=>t
 |_::r,t=>.slice (E5 r t)
inductive Obj where
 |box (t:Ty) (c:SV) (w:Bool)
 |sl (id:Nat) (t:Ty) (xs:List t.T) (g:Nat) (w:Bool)
 |mp (k v:Ty) (es:List (k.T×v.T)) (w:Bool)
 |mg (id:Nat) (k t:Ty) (es:List (k.T×List t.T)) (tk:Option k.T) (gk:Nat)
 |dp (ids:List Nat) (t:Ty) (x:(E5 ids t).T) (gk:Nat) (hole:Option (List Nat)) (w:Bool)
 |it (a b:Ty) (es:List (a.T×b.T))
 deriving Inhabited
abbrev W4:=Nat->X1 Obj
variable{σ:W4}
structure St where
 slots:Nat->SV
 sto:W4
 n:Nat
inductive Ex where
 |normal
 |exit (id:Nat)
 |ret
def dH(k:IntKind)(n:Int):X5:=decide (k.min<=n)&&decide (n<=k.max)
def dI:X2->SV
 | .bool b=>.val .bool b
 | .int k n=>bif dH k n then .val (.int k) n else .undef
 | .string s=>bif Nat.ble s.data.toList.length 281474976710656 then .val .str s.data.toList else .undef
 | .slice none 0 0=>.nilS
 | .nilIface=>.nilI
 | .pointer none=>.nilP
 | .map none=>.nilM
 | .nilFunc=>.nilF
 |_=>.undef
def GS(sl:Nat->SV):Operand->SV
 | .tmp t=>sl t
 | .const v=>dI v
 | .func f=>.fn f .snil
 | .global _=>.undef
def Ty.isIface:Ty->X5
 | .inil=>true
 | .ialt _ _ r=>r.isIface
 |_=>false
def SV.as(t:Ty):SV->X1 t.T
 | .val u x=>Ty.cast? u t x
 | .nilS=>match t with| .slice e=>some ([]:KX e.T)|_=>none
 | .nilP=>match t with| .ptr e=>some (none:X1 e.T)|_=>none
 | .nilI=>if t.isIface=true then some t.Q8 else none
 | .nilM=>match t with| .map k v=>some ([]:KX (k.T×v.T))|_=>none
 | .nns u x=>Ty.cast? (.slice u) t x
 | .mns u x=>Ty.cast? (.slice u) t (x.getD [])
 | .ref u x=>match t with| .ptr e=>(Ty.cast? u e x).map some|_=>none
 |_=>none
def RQ(σ:W4)(k g:Nat)(t:Ty):X1 t.T:=
 match σ k with
 |some (.sl _ e xs g' w)=>if Nat.beq g g' && !w then Ty.cast? (.slice e) t xs else none
 |some (.mp a b es w)=>if Nat.beq g 0 && !w then Ty.cast? (.map a b) t es else none
 |some (.dp (i::r) e x _ _ w)=>if Nat.beq g 0 && !w then Ty.cast? (E5 (i::r) e) t x else none
 |_=>none
def SV.asV(σ:W4)(t:Ty):SV->X1 t.T
 | .obj k g=>RQ σ k g t
 |s=>s.as t
def NZ(u p:Ty)(x:u.T):X1 p.T:=match u,x with
 | .agg q,x=>Ty.cast? q p x
 |u,x=>Ty.cast? u p x
def SV.asL(σ:W4)(t:Ty):SV->X1 t.T
 | .val u x=>NZ u t x
 |s=>s.asV σ t
def OO(u t:Ty)(x:u.T):X1 t.T:=match t with
 | .agg p=>match Ty.cast? u (.agg p) x with
  |some y=>some y
  |none=>Ty.cast? u p x
 |t=>NZ u t x
def SV.asC(σ:W4):(t:Ty)->SV->X1 t.T
 | .prod a b=>λs=>match s with
  | .pr x y=>match SV.asC σ a x,SV.asC σ b y with
   |some u,some v=>some (u,v)
   |_,_=>none
  | .val u x=>NZ u (.prod a b) x
  |s=>s.as (.prod a b)
 | .agg p=>λs=>match s with
  | .val u x=>NZ u p x
  |s=>SV.asC σ p s
 | .unit=>SV.asL σ .unit
 | .bool=>SV.asL σ .bool
 | .int k=>SV.asL σ (.int k)
 | .str=>SV.asL σ .str
 | .slice e=>SV.asL σ (.slice e)
 | .arr n e=>SV.asL σ (.arr n e)
 | .ptr e=>SV.asL σ (.ptr e)
 | .map k v=>SV.asL σ (.map k v)
 | .inil=>SV.asL σ .inil
 | .ialt i t r=>SV.asL σ (.ialt i t r)
 | .self=>SV.asL σ .self
 | .opq=>SV.asL σ .opq
 | .hV d c=>SV.asL σ (.hV d c)
def SV.RC:SV->X1 (SV×SV)
 | .pr a b=>some (a,b)
 | .val (.prod a b) x=>some (.val a x.1,.val b x.2)
 | .val (.agg (.prod a b)) x=>some (.val a (Prod.fst x),.val b (Prod.snd x))
 |_=>none
def SV.l6:SV->KX X5->X1 SV
 |s,[]=>some s
 |s,b::r=>match s.RC with
  |some (x,y)=>(bif b then y else x).l6 r
  |none=>none
def SV.setAt:SV->KX X5->SV->X1 SV
 |_,[],v=>some v
 |s,b::r,v=>match s.RC with
  |some (x,y)=>bif b then(y.setAt r v).map (.pr x ·)else(x.setAt r v).map (.pr · y)
  |none=>none
def Ty.at:(t:Ty)->KX X5->t.T->X1 ((u:Ty)×u.T)
 |t,[],x=>some ⟨t,x⟩
 | .prod a b,i::r,x=>bif i then Ty.at b r x.2 else Ty.at a r x.1
 | .agg (.prod a b),i::r,x=>bif i then Ty.at b r (Prod.snd x)else Ty.at a r (Prod.fst x)
 |_,_::_,_=>none
def Ty.put:(t:Ty)->KX X5->t.T->(u:Ty)->u.T->X1 t.T
 |t,[],_,u,y=>Ty.cast? u t y
 | .prod a b,i::r,x,u,y=>bif i then(Ty.put b r x.2 u y).map (λz=>(x.1,z))else(Ty.put a r x.1 u y).map (λz=>(z,x.2))
 | .agg (.prod a b),i::r,x,u,y=>bif i then(Ty.put b r (Prod.snd x) u y).map (λz=>((Prod.fst x:a.T),z))else(Ty.put a r (Prod.fst x) u y).map (λz=>(z,(Prod.snd x:b.T)))
 |_,_::_,_,_,_=>none
def GK:(n f:Nat)->KX X5
 |0,_=>[]
 |1,_=>[]
 |_+2,0=>[false]
 |n+2,f+1=>true::GK (n+1) f
def Ty.off:Ty->KX X5->X1 Nat
 |_,[]=>some 0
 | .prod a b,i::r=>bif i then(b.off r).map (a.sz + ·)else a.off r
 | .agg p,i::r=>Ty.off p (i::r)
 |_,_::_=>none
def Ty.sub:Ty->KX X5->X1 Ty
 |t,[]=>some t
 | .prod a b,i::r=>bif i then b.sub r else a.sub r
 | .agg p,i::r=>Ty.sub p (i::r)
 |_,_::_=>none
def Ty.bare:Ty->Ty
 | .agg t=>t
 |t=>t
def Ty.fields:Ty->Nat
 | .prod _ b=>b.fields+1
 | .unit=>0
 |_=>1
inductive Sh where
 |val (t:Ty)
 |own (id:Nat) (t:Ty) (w:Bool)
 |io (id:Nat) (t:Ty)
 |omap (k v:Ty)
 |box (c:Sh)
 |pr (a b:Sh)
 |hof (nd:Bool) (d c:Ty)
 |fn (f:Nat)
 |nilS
 |nns (e:Ty)
 |mns (e:Ty)
 |any
 |R9 (el:Nat) (c:Bool)
 |tr (s:Sh)
 |og (id:Nat) (k t:Ty)
 |dp (ids:List Nat) (t:Ty)
 |fz (t:Ty)
 |it (k v:Ty)
 deriving Inhabited
def GT:Ty:=.prod .self (.slice (.int .u8))
def Sh.T:Sh->Type
 | .val t=>t.T
 | .own _ t _=>KX t.T
 | .io _ t=>KX t.T
 | .omap k v=>KX (k.T×v.T)
 | .box c=>c.T
 | .pr a b=>a.T×b.T
 | .hof _ d c=>d.T->X1 c.T
 | .fn _=>Unit
 | .nilS=>Unit
 | .nns e=>KX e.T
 | .mns e=>X1 (KX e.T)
 | .any=>Unit
 | .R9 _ _=>KX Int
 | .tr s=>s.T
 | .og _ k t=>KX (k.T×KX t.T)
 | .dp ids t=>(E5 ids t).T
 | .fz t=>t.T
 | .it k v=>KX (k.T×v.T)
def Sh.ty:Sh->Ty
 | .val t=>t
 | .own _ t _=>.slice t
 | .io _ t=>.slice t
 | .omap k v=>.map k v
 | .box c=>.ptr c.ty
 | .pr a b=>.prod a.ty b.ty
 | .hof _ _ _=>.bool
 | .fn _=>.bool
 | .nilS=>.slice .bool
 | .nns e=>.slice e
 | .mns e=>.slice e
 | .any=>.bool
 | .R9 _ _=>.ptr GT
 | .tr s=>.agg s.ty
 | .og _ k t=>.map k (.slice t)
 | .dp ids t=>E5 ids t
 | .fz t=>t
 | .it _ _=>.bool
def Z5:KX Sh->Type
 |[]=>Unit
 |[a]=>a.T
 |a::b::r=>a.T×Z5 (b::r)
def EX:Sh->X5
 | .box _=>true
 | .io _ _=>true
 | .R9 _ c=>!c
 |_=>false
def Sh.Q8:(s:Sh)->s.T
 | .val t=>t.Q8
 | .own _ t _=>([]:KX t.T)
 | .io _ t=>([]:KX t.T)
 | .omap k v=>([]:KX (k.T×v.T))
 | .box c=>c.Q8
 | .pr a b=>(a.Q8,b.Q8)
 | .hof _ _ _=>λ_=>none
 | .fn _=>()
 | .nilS=>()
 | .nns e=>([]:KX e.T)
 | .mns e=>(none:X1 (KX e.T))
 | .any=>()
 | .R9 _ _=>([]:KX Int)
 | .tr s=>s.Q8
 | .og _ k t=>([]:KX (k.T×KX t.T))
 | .dp ids t=>(E5 ids t).Q8
 | .fz t=>t.Q8
 | .it k v=>([]:KX (k.T×v.T))
def Z5.Q8:(l:KX Sh)->Z5 l
 |[]=>()
 |[a]=>a.Q8
 |a::b::r=>(a.Q8,Z5.Q8 (b::r))
def V9:KX Sh->X5
 |[]=>true
 | .val _::r=>V9 r
 |_=>false
structure Q2 where
 ps:KX Sh
 rs:KX Sh
 F:Z5 ps->X1 (Z5 (rs++ps.filter EX))
 dr:X5
structure Kp where
 tm:KX Nat
 sh:KX Sh
def H6:KX (Ex×Kp)->Type
 |[]=>Empty
 |[o]=>Z5 o.2.sh
 |o::p::r=>Sum (Z5 o.2.sh) (H6 (p::r))
structure NdS(QJ:Kp)(outs:KX (Ex×Kp)) where
 ok:Ty
 ov:Ty
 S:Z5 QJ.sh->KX (ok.T×ov.T)->Prop
 F:Z5 QJ.sh->KX (ok.T×ov.T)->X1 (H6 outs)
structure XY where
 QJ:Kp
 outs:KX (Ex×Kp)
 wrs:KX Nat
 F:Z5 QJ.sh->X1 (H6 outs)
 al:KX (Nat×Nat):=[]
 nd:X1 (NdS QJ outs):=none
 kx:X1 Unit:=none
open Classical in
def RR{α Ω:Type}(S:α->Prop)(g:α->X1 Ω):X1 Ω:=
 if h:∃ω,∀o,S o->g o=some ω then some (Classical.choose h)else none
def AFo{Ω:Type}{S:α->Prop}{g:α->X1 Ω}{ω:Ω}(h:RR S g=some ω):∀o,S o->g o=some ω:=by unfold RR at h;split at h<;>grind
theorem A2A{Ω:Type}{S:α->Prop}{g:α->X1 Ω}{ω:Ω}(a:∃o,S o)(h:∀o,S o->g o=some ω):RR S g=some ω:=by have b:∃ω,∀o,S o->g o=some ω:=⟨ω,h⟩;unfold RR;grind
structure Env where
 ty:Nat->X1 Ty
 fs:Nat->X1 Q2
 cut:Nat->X1 XY
 wr:Nat->X5
 el:Nat->Nat
 mt:String->Nat->X1 Nat
 eq:Nat->X5
 dr:X5
 dp:Nat->Nat:=λ_=>0
 ky:Nat->Nat:=λ_=>0
 ks:Nat->X1 Unit:=λ_=>none
def N0:Ty->X5
 | .prod _ _=>true
 |_=>false
def TD:(rs:KX Sh)->(c:Ty)->Z5 rs->X1 c.T
 |[.val t],c,y=>bif N0 c then none else Ty.cast? t c y
 | .val t::b::r,.prod p q,y=>match Ty.cast? t p y.1,TD (b::r) q y.2 with
  |some u,some v=>some (u,v)
  |_,_=>none
 |_,_,_=>none
def rU:(c:Ty)->c.T->SV
 | .prod a b,y=>.scons (.val a y.1) (rU b y.2)
 |t,y=>.scons (.val t y) .snil
def dJ:(c:Ty)->c.T->SV
 | .prod a b,y=>.tup (rU (.prod a b) y)
 |t,y=>.val t y
def A2B(d' c' d c:Ty)(F:d'.T->X1 c'.T):X1 (d.T->X1 c.T):=
 if h:d'.same d=true then(if h':c'.same c=true then some (Ty.Z7 h▸Ty.Z7 h'▸F)else none)else none
def RT(σ:W4)(s:SV):SV:=match s with
 | .ptr k p u=>match σ k with
  |some (.box _ c false)=>match c.l6 p with
   |some x=>match x.asC σ u with
    |some y=>.ref u y
    |none=>.ptr k p u
   |none=>.ptr k p u
  |_=>.ptr k p u
 |s=>s
def PT:SV->X5
 | .snil=>true
 | .scons _ b=>PT b
 |_=>false
def rV(e u:Ty)(x:u.T):X1 e.T:=match Ty.cast? u e x with
 |some y=>some y
 |none=>Ty.cast? (.agg u) e x
def dK(u:Ty)(x:u.T):(t:Ty)->X1 t.T
 | .ptr e=>(rV e u x).map some
 |_=>none
def A2C(σ:W4)(t:Ty):SV->X1 t.T
 | .ref u x=>dK u x t
 | .rf0 u x=>dK u x t
 |s=>s.asV σ t
def VA(σ:W4)(t:Ty)(s:SV):X1 t.T:=A2C σ t (RT σ s)
def TE:(a:Sh)->(r:KX Sh)->a.T->Z5 r->Z5 (a::r)
 |_,[],x,_=>x
 |_,_::_,x,y=>(x,y)
def X_(σ:W4):(l:KX Sh)->KX SV->X1 (Z5 l)
 |[],[]=>some ()
 | .val t::r,s::w=>match VA σ t s,X_ σ r w with
  |some x,some y=>some (TE (.val t) r x y)
  |_,_=>none
 |_,_=>none
def Y0(σ:W4)(cs:KX SV):Nat->(ps:KX Sh)->(d:Ty)->d.T->X1 (Z5 ps)
 |0,.val t::r,d,x=>bif N0 d then none else match Ty.cast? d t x,X_ σ r cs with
  |some u,some v=>some (TE (.val t) r u v)
  |_,_=>none
 |n+1,.val t::r,.prod p q,x=>match Ty.cast? p t x.1,Y0 σ cs n r q x.2 with
  |some u,some v=>some (TE (.val t) r u v)
  |_,_=>none
 |_,_,_,_=>none
def Y1:Ty->Nat
 | .prod _ q=>Y1 q+1
 |_=>0
def A2D(σ:W4)(n:Nat)(ps:KX Sh)(cs:KX SV):X5:=(X_ σ (ps.drop (n+1)) cs).isSome
def PU(nd:X5)(fs:Nat->X1 Q2)(σ:W4)(d c:Ty):SV->X1 (d.T->X1 c.T)
 | .hof nd' d' c' F=>bif !nd||nd' then A2B d' c' d c F else none
 | .fn f caps=>match fs f with
  |some sp=>bif PT caps&&V9 sp.ps&&(!nd||sp.dr)&&A2D σ (Y1 d) sp.ps caps.list then some (λx=>(Y0 σ caps.list (Y1 d) sp.ps d x).bind λv=>(sp.F v).bind λr=>TD _ c r)else none
  |_=>none
 |_=>none
def LR(σ:W4)(id:Nat)(t:Ty)(w:X5):SV->X1 (KX t.T)
 | .obj k g=>match σ k with
  |some (.sl id' t' xs g' w')=>if Nat.beq g 0&&Nat.beq g g'&&(Nat.beq id id'&&(bif w then w' else !w'))then Ty.cast? (.slice t') (.slice t) xs else none
  |_=>none
 | .nilS=>some ([]:KX t.T)
 |_=>none
def Y2(σ:W4)(k v:Ty):SV->X1 (KX (k.T×v.T))
 | .obj j g=>match σ j with
  |some (.mp k' v' es w)=>if Nat.beq g 0&&w then Ty.cast? (.map k' v') (.map k v) es else none
  |_=>none
 |_=>none
def dL(σ:W4)(k v:Ty):SV->X1 (KX (k.T×v.T))
 | .obj j g=>match σ j with
  |some (.it k' v' es)=>if Nat.beq g 0 then Ty.cast? (.map k' v') (.map k v) es else none
  |_=>none
 |_=>none
def Y3(σ:W4)(id:Nat)(k t:Ty):SV->X1 (KX (k.T×KX t.T))
 | .obj j g=>match σ j with
  |some (.mg id' k' t' es none _)=>bif Nat.beq g 0&&Nat.beq id id' then Ty.cast? (.map k' (.slice t')) (.map k (.slice t)) es else none
  |_=>none
 |_=>none
def PV:KX Nat->KX Nat->X5
 |[],[]=>true
 |a::r,b::s=>Nat.beq a b&&PV r s
 |_,_=>false
def RU(σ:W4)(ids:KX Nat)(t:Ty):SV->X1 (E5 ids t).T
 | .obj k g=>match σ k with
  |some (.dp ids' t' x _ none true)=>bif Nat.beq g 0&&PV ids' ids then Ty.cast? (E5 ids' t') (E5 ids t) x else none
  |some (.sl id' t' xs g' true)=>bif Nat.beq g 0&&(Nat.beq g' 0&&PV [id'] ids)then Ty.cast? (.slice t') (E5 ids t) xs else none
  |_=>none
 | .nilS=>match ids with
  |[]=>none
  |_::r=>some ([]:KX (E5 r t).T)
 |_=>none
def Y4(f:Nat):SV->X1 Unit
 | .fn g .snil=>if Nat.beq f g then some ()else none
 |_=>none
def dM(e:Ty):SV->X1 (KX e.T)
 | .nns u x=>Ty.cast? (.slice u) (.slice e) x
 |_=>none
def dN(u e:Ty)(x:X1 (KX u.T)):X1 (X1 (KX e.T)):=if h:u.same e=true then some (Ty.Z7 h▸x)else none
def dO(e:Ty):SV->X1 (X1 (KX e.T))
 | .nilS=>some none
 | .nns u x=>dN u e (some x)
 | .mns u x=>dN u e x
 | .val u x=>(Ty.cast? u (.slice e) x).map some
 |_=>none
def Y5:SV->X1 Unit
 | .nilS=>some ()
 |_=>none
def PX(σ:W4):(s:Sh)->SV->X1 s.T
 | .val t,v=>v.asC σ t
 | .own id t w,v=>LR σ id t w v
 | .io id t,v=>LR σ id t true v
 | .omap a b,v=>Y2 σ a b v
 | .pr a b,v=>match v.RC with
  |some (x,y)=>match PX σ a x,PX σ b y with
   |some u,some w=>some (u,w)
   |_,_=>none
  |none=>none
 | .fn f,v=>Y4 f v
 | .nilS,v=>Y5 v
 | .nns e,v=>dM e v
 | .mns e,v=>dO e v
 | .box _,_=>none
 | .hof _ _ _,_=>none
 | .any,_=>none
 | .R9 _ _,_=>none
 | .tr _,_=>none
 | .og id k t,v=>Y3 σ id k t v
 | .dp ids t,v=>RU σ ids t v
 | .fz _,_=>none
 | .it _ _,_=>none
def dP:Sh->X5
 | .pr _ _=>true
 |_=>false
def A2E(σ:W4)(s:Sh):SV->X1 s.T
 | .bt u c=>bif dP s&&u.same (.agg s.ty)then PX σ s c else none
 |_=>none
def dQ(k:Nat):SV->X5
 | .val t _=>t.same .self
 | .slf j=>Nat.beq j k
 | .ptr j [] _=>Nat.beq j k
 |_=>false
def VB(σ:W4)(el:Nat):SV->X1 (KX Int)
 | .ptr k [] _=>match σ k with
  | some (.box t c true)=>bif t.same GT then (match c with
   | .pr x y=>bif dQ k x then LR σ el (.int .u8) true y else none
   |_=>none)else none
  |_=>none
 |_=>none
def VC(σ:W4)(c:Sh):SV->X1 c.T
 | .ptr k [] _=>match σ k with
  |some (.box t v true)=>if t.same c.ty=true then PX σ c v else none
  |_=>none
 |_=>none
def VD(fs:Nat->X1 Q2)(σ:W4):(s:Sh)->SV->X1 s.T
 | .val t,v=>v.asV σ t
 | .box c,v=>VC σ c v
 | .hof nd d c,v=>PU nd fs σ d c v
 | .own id t w,v=>LR σ id t w v
 | .io id t,v=>LR σ id t true v
 | .omap a b,v=>Y2 σ a b v
 | .fn f,v=>Y4 f v
 | .nilS,v=>Y5 v
 | .nns e,v=>dM e v
 | .mns e,v=>dO e v
 | .pr _ _,_=>none
 | .any,_=>some ()
 | .R9 el _,v=>VB σ el v
 | .tr s,v=>A2E σ s v
 | .og id k t,v=>Y3 σ id k t v
 | .dp ids t,v=>RU σ ids t v
 | .fz t,v=>VA σ t v
 | .it a b,v=>dL σ a b v
def GQ:SV->KX Nat
 | .obj k _=>[k]
 |_=>[]
def TF:(s:Sh)->SV->KX Nat
 | .own _ _ _,v=>GQ v
 | .io _ _,v=>GQ v
 | .omap _ _,v=>GQ v
 | .og _ _ _,v=>GQ v
 | .dp _ _,v=>GQ v
 | .pr a b,v=>match v.RC with
  |some (x,y)=>TF a x++TF b y
  |none=>[]
 |_,_=>[]
def dR(σ:W4)(c:Sh):SV->KX Nat
 | .ptr k _ _=>k::(match σ k with
  |some (.box _ v _)=>TF c v
  |_=>[])
 |_=>[]
def dS(σ:W4):SV->KX Nat
 | .ptr k _ _=>k::(match σ k with
  |some (.box _ (.pr _ y) _)=>GQ y
  |_=>[])
 |_=>[]
def RV(σ:W4):(s:Sh)->SV->KX Nat
 | .own _ _ _,v=>GQ v
 | .it _ _,v=>GQ v
 | .io _ _,v=>GQ v
 | .omap _ _,v=>GQ v
 | .og _ _ _,v=>GQ v
 | .dp _ _,v=>GQ v
 | .box c,v=>dR σ c v
 | .R9 _ _,v=>dS σ v
 | .tr s,.bt _ c=>TF s c
 |_,_=>[]
def GL(σ:W4):KX Sh->KX SV->KX Nat
 |a::l,v::vs=>RV σ a v++GL σ l vs
 |_,_=>[]
def F4(k:Nat):KX Nat->X5
 |[]=>false
 |j::r=>Nat.beq k j||F4 k r
def LT:KX Nat->X5
 |[]=>true
 |k::r=>!(F4 k r)&&LT r
def RW(fs:Nat->X1 Q2)(σ:W4):(l:KX Sh)->KX SV->X1 (Z5 l)
 |[],[]=>some ()
 |[a],[v]=>VD fs σ a v
 |a::b::r,v::w=>match VD fs σ a v,RW fs σ (b::r) w with
  |some x,some y=>some (x,y)
  |_,_=>none
 |_,_=>none
structure Mk where
 sv:SV
 obs:KX (Nat×X1 Obj)
 nx:Nat
def F6:(s:Sh)->s.T->Nat->Mk
 | .val t,x,n=>⟨.val t x,[],n⟩
 | .own id t w,xs,n=>⟨.obj n 0,[(n,some (.sl id t xs 0 w))],n+1⟩
 | .io id t,xs,n=>⟨.obj n 0,[(n,some (.sl id t xs 0 true))],n+1⟩
 | .omap k v,es,n=>⟨.obj n 0,[(n,some (.mp k v es true))],n+1⟩
 | .pr a b,x,n=>
  let u:=F6 a x.1 n
  let v:=F6 b x.2 u.nx
  ⟨.pr u.sv v.sv,u.obs++v.obs,v.nx⟩
 | .box c,x,n=>
  let u:=F6 c x (n+1)
  ⟨.ptr n [] c.ty,(n,some (.box c.ty u.sv true))::u.obs,u.nx⟩
 | .hof nd d c,F,n=>⟨.hof nd d c F,[],n⟩
 | .fn f,_,n=>⟨.fn f .snil,[],n⟩
 | .nilS,_,n=>⟨.nilS,[],n⟩
 | .nns e,x,n=>⟨.nns e x,[],n⟩
 | .mns e,x,n=>⟨.mns e x,[],n⟩
 | .any,_,n=>⟨.undef,[],n⟩
 | .R9 el _,xs,n=>⟨.ptr n [] GT,[(n,some (.box GT (.pr (.slf n) (.obj (n+1) 0)) true)),(n+1,some (.sl el (.int .u8) xs 0 true))],n+2⟩
 | .tr s,x,n=>⟨.bt (.agg s.ty) (F6 s x n).sv,(F6 s x n).obs,(F6 s x n).nx⟩
 | .og id k t,es,n=>⟨.obj n 0,[(n,some (.mg id k t es none (n+1)))],n+2⟩
 | .fz t,x,n=>⟨.val t x,[],n⟩
 | .it _ _,_,n=>⟨.undef,[],n⟩
 | .dp ids t,x,n=>⟨.obj n 0,[(n,some (.dp ids t x (n+1) none true))],n+2⟩
def FH:(l:KX Sh)->Z5 l->Nat->KX Mk
 |[],_,_=>[]
 |[a],x,n=>[F6 a x n]
 |a::b::r,x,n=>F6 a x.1 n::FH (b::r) x.2 (F6 a x.1 n).nx
def Sh.R4:Sh->Nat
 | .own _ _ _=>1
 | .io _ _=>1
 | .omap _ _=>1
 | .pr a b=>a.R4+b.R4
 | .box c=>c.R4+1
 | .R9 _ _=>2
 | .tr s=>s.R4
 | .og _ _ _=>2
 | .dp _ _=>2
 |_=>0
def GH:KX Sh->Nat
 |[]=>0
 |a::r=>a.R4+GH r
def Y6(l:KX Mk)(n:Nat):Nat:=match l with
 |[]=>n
 |m::r=>Y6 r m.nx
def IC{α:Type}(l:KX (Nat×α))(i:Nat):X1 α:=match l with
 |[]=>none
 |(j,x)::r=>bif Nat.beq i j then some x else IC r i
def TG(tm:KX Nat)(l:KX SV)(i:Nat):SV:=match tm,l with
 |t::tm,s::l=>bif Nat.beq i t then s else TG tm l i
 |_,_=>.undef
def ID(k:Kp)(x:Z5 k.sh):St:=
 let l:=FH k.sh x 0
 let obs:=l.flatMap (·.obs)
 {slots:=TG k.tm (l.map (·.sv)),sto:=λi=>(IC obs i).getD none,n:=Y6 l 0}
def RX(fs:Nat->X1 Q2)(σ:W4)(l:KX Sh)(vs:KX SV):X1 (Z5 l):=
 bif LT (GL σ l vs)then RW fs σ l vs else none
def A2F:SV->SV->X5
 | .obj k g,.obj j h=>Nat.beq k j&&Nat.beq g h
 |_,_=>false
def Y7:SV->SV->X5
 | .ptr k [] _,.ptr j [] _=>Nat.beq k j
 |_,_=>false
def A2G(sl:Nat->SV)(t c:Nat):X5:=bif Nat.blt c 1048576 then A2F (sl t) (sl c)else bif Nat.blt c 1099511627776 then(match sl t with
 | .fn f (.scons s .snil)=>Nat.beq f (c / 1048576-1)&&Y7 s (sl (c % 1048576))
 |_=>false)else match sl t with
 | .fn f (.scons s (.scons r .snil))=>Nat.beq f (c / 1048576 % 1048576-1)&&(Y7 s (sl (c % 1048576))&&Y7 r (sl (c / 1099511627776-1)))
 |_=>false
def RY:KX (Nat×Nat)->(Nat->SV)->X5
 |[],_=>true
 |p::r,sl=>A2G sl p.1 p.2&&RY r sl
def TH(sl:Nat->SV)(c:Nat):SV:=bif Nat.blt c 1048576 then sl c else bif Nat.blt c 1099511627776 then .fn (c / 1048576-1) (.scons (sl (c % 1048576)) .snil)else .fn (c / 1048576 % 1048576-1) (.scons (sl (c % 1048576)) (.scons (sl (c / 1099511627776-1)) .snil))
def Y8(al:KX (Nat×Nat))(sl:Nat->SV)(t:Nat):SV:=match IC al t with
 |some j=>TH sl j
 |none=>sl t
def VE(al:KX (Nat×Nat))(k:Kp)(x:Z5 k.sh):St:={slots:=Y8 al (ID k x).slots,sto:=(ID k x).sto,n:=(ID k x).n}
def OP(fs:Nat->X1 Q2)(k:Kp)(st:St):X1 (Z5 k.sh):=RX fs st.sto k.sh (k.tm.map st.slots)
def gone:KX Nat->KX (Nat×X1 Obj)
 |[]=>[]
 |k::r=>(k,none)::gone r
def EK(σ:W4):KX (Nat×X1 Obj)->W4
 |[]=>σ
 |(k,o)::r=>λi=>bif Nat.beq i k then o else EK σ r i
def JG:Obj->Obj
 | .sl id t xs g _=>.sl id t xs g false
 | .mp k v es _=>.mp k v es false
 | .box t c _=>.box t c false
 | .mg id k t es tk gk=>match tk with
  |none=>.mp k (.slice t) es false
  |some q=>.mg id k t es (some q) gk
 | .dp ids t x gk h w=>.dp ids t x gk h (match h with|none=>false|some _=>w)
 | .it a b es=>.it a b es
def N_(σ:W4):KX Nat->KX (Nat×X1 Obj)
 |[]=>[]
 |k::r=>match σ k with
  |some o=>(k,some (JG o))::N_ σ r
  |none=>N_ σ r
def AFp:Obj->X5
 | .sl _ _ _ _ w=>w
 | .mp _ _ _ w=>w
 | .box _ _ w=>w
 | .mg _ _ _ _ tk _=>tk.isNone
 | .dp _ _ _ _ h w=>w&&h.isNone
 | .it _ _ _=>false
def hk(σ:W4):SV->KX Nat
 | .obj k _=>match σ k with
  |some o=>bif AFp o then [k]else []
  |none=>[]
 |_=>[]
def Y9(σ:W4):SV->KX Nat
 | .pr a b=>Y9 σ a++Y9 σ b
 |s=>hk σ s
def dT(σ:W4):Sh->SV->KX Nat
 | .val _,v=>Y9 σ v
 | .pr a b,.pr x y=>dT σ a x++dT σ b y
 |_,_=>[]
def rW(σ:W4):SV->KX Nat
 | .ptr k _ _=>match σ k with
  |some (.box _ c true)=>k::Y9 σ c
  |_=>[]
 |s=>hk σ s
def AFq(σ:W4):Sh->SV->KX Nat
 | .val _,v=>hk σ v
 | .fz _,v=>rW σ v
 | .hof _ _ _,.fn _ caps=>caps.list.flatMap (rW σ)
 | .tr s,.bt _ c=>dT σ s c
 | .box c,.ptr k _ _=>match σ k with
  |some (.box _ v _)=>dT σ c v
  |_=>[]
 |_,_=>[]
def rX(σ:W4):KX Sh->KX SV->KX Nat
 | .val _::l,v::vs=>hk σ v++rX σ l vs
 |_::l,_::vs=>rX σ l vs
 |_,_=>[]
def rY(σ:W4):KX Sh->KX SV->KX Nat
 |s::l,v::vs=>AFq σ s v++rY σ l vs
 |_,_=>[]
def dU(σ:W4)(l:KX Sh)(vs:KX SV):W4:=EK σ (N_ σ (rY σ l vs))
def KS(k:Kp)(st:St):St:={slots:=st.slots,sto:=dU st.sto k.sh (k.tm.map st.slots),n:=st.n}
def VF(st:St)(wrs ks:KX Nat)(k:Kp)(y:Z5 k.sh):St:=
 let l:=FH k.sh y st.n
 { slots:=λt=>bif F4 t k.tm then TG k.tm (l.map (·.sv)) t else bif F4 t wrs then .undef else st.slots t,
   sto:=EK st.sto (l.flatMap (·.obs)++gone ks),n:=st.n+GH k.sh}
def dV(c:Nat):Nat:=bif Nat.blt c 1048576 then c else c % 1048576
def rZ(c:Nat):Nat:=bif Nat.blt c 1099511627776 then dV c else c / 1099511627776-1
def VG(al:KX (Nat×Nat))(wrs:KX Nat)(sl:Nat->SV)(t:Nat):SV:=match IC al t with
 |some c=>bif F4 t wrs||(F4 (dV c) wrs||F4 (rZ c) wrs)then sl t else TH sl c
 |none=>sl t
def YA(al:KX (Nat×Nat))(wrs:KX Nat)(st:St):St:=match al with
 |[]=>st
 |al=>{slots:=VG al wrs st.slots,sto:=st.sto,n:=st.n}
def YB{Ω:Type}(st:St)(wrs ks:KX Nat):(l:KX (Ex×Kp))->H6 l->(Ex->St->X1 Ω)->X1 Ω
 |[],x,_=>Empty.elim x
 |[o],x,K=>K o.1 (VF st wrs ks o.2 x)
 |o::p::r,x,K=>Sum.casesOn (motive:=λ_=>X1 Ω) x (λy=>K o.1 (VF st wrs ks o.2 y)) (λy=>YB st wrs ks (p::r) y K)
structure n_ where
 sv:SV
 wr:KX (Nat×X1 Obj)
variable{u:n_}
inductive Z8:Type 1 where
 |pure (u:n_)
 |may (α:Type) (m:Option α) (d:α) (u:α->n_)
variable{r:Z8}
def Z8.v(s:SV):Z8:=.pure ⟨s,[]⟩
def at? {α:Type}(l:KX α)(i:Int):X1 α:=bif decide (0<=i)then l[i.toNat]? else none
def cut? {α:Type}(l:KX α)(lo hi:Int):X1 (KX α):=
 bif decide (0<=lo)&&(decide (lo<=hi)&&decide (hi<=l.length))then some ((l.take hi.toNat).drop lo.toNat)else none
def cat? (a b:DO):X1 DO:=bif decide (a.length+b.length<=281474976710656)then some (a++b)else none
def app? {α:Type}(B:Nat)(a b:KX α):X1 (KX α):=bif decide ((a.length+b.length)*B<=70368744177664)then some (a++b)else none
def in? (n:Nat)(i:Int):X1 Unit:=bif decide (0<=i)&&decide (i<n)then some ()else none
def div? (k:IntKind)(a b:Int):X1 Int:=bif b==0 then none else some (k.wrap (a.tdiv b))
def mod? (a b:Int):X1 Int:=bif b==0 then none else some (a.tmod b)
def FZ(l:DO):KX Int:=l.map λb=>(b.toNat:Int)
def IY(l:KX Int):DO:=l.map λn=>UInt8.ofNat n.toNat
def IE(x y:X5):X5:=x==y
def DT(x y:Int):X5:=x==y
def DU(x y:DO):X5:=x==y
def Ty.beq:(t:Ty)→t.T→t.T→X1 X5
 | .unit,_,_=>some true
 | .bool,x,y=>some (IE x y)
 | .int _,x,y=>some (DT x y)
 | .str,x,y=>some (DU x y)
 | .agg t,x,y=>Ty.beq t x y
 | .prod a b,x,y=>match Ty.beq a x.1 y.1,Ty.beq b x.2 y.2 with
  |some u,some v=>some (u&&v)
  |_,_=>none
 |_,_,_=>none
def DY{α β:Type}(eq:α->α->X5)(k:α):KX (α×β)->X1 β
 |[]=>none
 |e::r=>bif eq k e.1 then some e.2 else DY eq k r
def EE{α β:Type}(eq:α->α->X5)(k:α)(v:β):KX (α×β)->KX (α×β)
 |[]=>[(k,v)]
 |e::r=>bif eq k e.1 then(k,v)::r else e::EE eq k v r
def O0:(t:Ty)->X1 (t.T->t.T->X5)
 | .bool=>some IE
 | .int _=>some DT
 | .str=>some DU
 |_=>none
def LU:(t:Ty)->X1 (t.T->t.T->X5)
 | .bool=>some IE
 | .int _=>some DT
 | .str=>some DU
 | .agg p=>LU p
 | .prod a b=>match LU a,LU b with
  |some f,some g=>some λx y=>f x.1 y.1&&g x.2 y.2
  |_,_=>none
 |_=>none
def dW(ke:X5):(t:Ty)->X1 (t.T->t.T->X5)
 | .agg p=>bif ke then LU p else none
 | .bool=>some IE
 | .int _=>some DT
 | .str=>some DU
 |_=>none
def shl? (k:IntKind)(a b:Int):X1 Int:=bif decide (b<0)then none else some (k.wrap (a*2 ^ min b.toNat k.bits))
def shr? (k:IntKind)(a b:Int):X1 Int:=bif decide (b<0)then none else some (a.fdiv (2 ^ min b.toNat k.bits))
def r_(op:BinOp)(k:IntKind)(a b:Int):X1 Z8:=
 match op with
 | .add=>some (.v (.val (.int k) (k.wrap (a+b))))
 | .sub=>some (.v (.val (.int k) (k.wrap (a-b))))
 | .mul=>some (.v (.val (.int k) (k.wrap (a*b))))
 | .quo=>some (.may Int (div? k a b) 0 λx=>⟨.val (.int k) x,[]⟩)
 | .rem=>some (.may Int (mod? a b) 0 λx=>⟨.val (.int k) x,[]⟩)
 | .eql=>some (.v (.val .bool (DT a b)))
 | .neq=>some (.v (.val .bool (!(DT a b))))
 | .lss=>some (.v (.val .bool (decide (a<b))))
 | .leq=>some (.v (.val .bool (decide (a<=b))))
 | .gtr=>some (.v (.val .bool (decide (b<a))))
 | .geq=>some (.v (.val .bool (decide (b<=a))))
 |_=>none
def sA(op:BinOp)(a b:DO):X1 Z8:=
 match op with
 | .add=>some (.may DO (cat? a b) [] λx=>⟨.val .str x,[]⟩)
 | .eql=>some (.v (.val .bool (DU a b)))
 | .neq=>some (.v (.val .bool (!(DU a b))))
 | .lss=>some (.v (.val .bool (Op.bytesLess a b)))
 | .leq=>some (.v (.val .bool (Op.bytesLess a b||DU a b)))
 | .gtr=>some (.v (.val .bool (!(Op.bytesLess a b||DU a b))))
 | .geq=>some (.v (.val .bool (!(Op.bytesLess a b))))
 |_=>none
def sB(op:BinOp)(x y:X5):X1 Z8:=
 match op with
 | .eql=>some (.v (.val .bool (IE x y)))
 | .neq=>some (.v (.val .bool (!(IE x y))))
 |_=>none
def dX(op:BinOp):SV->SV->X1 Z8
 | .val (.int k) a,.val (.int l) b=>match op with
  | .shl=>some (.may Int (shl? k a b) 0 λx=>⟨.val (.int k) x,[]⟩)
  | .shr=>some (.may Int (shr? k a b) 0 λx=>⟨.val (.int k) x,[]⟩)
  |op=>bif ON k l then r_ op k a b else none
 | .val .str a,.val .str b=>sA op a b
 | .val .bool a,.val .bool b=>sB op a b
 |_,_=>none
def VH(op:BinOp)(b:X5):X1 Z8:=match op with
 | .eql=>some (.v (.val .bool b))
 | .neq=>some (.v (.val .bool (!b)))
 |_=>none
def nilM? {α:Type}:X1 (KX α)->X1 X5
 |none=>some true
 |some []=>none
 |some (_::_)=>some false
def sC(op:BinOp)(t:X1 Ty)(x y:SV):X1 Z8:=match t with
 |some (.slice _)=>match x,y with
  | .nns _ _,.nilS=>VH op false
  | .mns _ x,.nilS=>match op with
   | .eql=>some (.may X5 (nilM? x) false λb=>⟨.val .bool b,[]⟩)
   | .neq=>some (.may X5 (nilM? x) false λb=>⟨.val .bool (!b),[]⟩)
   |_=>none
  | .nilS,.nilS=>VH op true
  |_,_=>none
 |_=>none
def A2H:Ty->X5
 | .agg _=>true
 |_=>false
def A2I(ty:X1 Ty)(ok:X5)(op:BinOp)(x y:SV):X1 Z8:=match ty with
 | some t=>bif ok&&A2H t then (match x.as t,y.as t with
  |some u,some v=>match Ty.beq t u v with
   |some b=>VH op b
   |none=>none
  |_,_=>none)else none
 |none=>none
def sD(op:UnOp):SV->X1 Z8
 | .val .bool b=>match op with| .not=>some (.v (.val .bool (!b)))|_=>none
 | .val (.int k) n=>match op with| .neg=>some (.v (.val (.int k) (k.wrap (0-(show Int from n)))))|_=>none
 |_=>none
def sE:SV->SV->SV->X1 Z8
 | .val .bool c,.val t x,.val u y=>match Ty.cast? u t y with
  |some z=>some (.v (.val t (bif c then x else z)))
  |none=>none
 |_,_,_=>none
def sF(σ:W4)(p:Ty)(i:Nat)(s:SV)(x:p.T):X1 p.T:=
 bif Nat.blt i p.fields then (match p.sub (GK p.fields i) with
  |some u=>match s.asV σ u with
   |some y=>Ty.put p (GK p.fields i) x u y
   |none=>none
  |none=>none)else none
def YC(σ:W4)(p:Ty):KX (Nat×SV)->p.T->X1 p.T
 |[],x=>some x
 |q::r,x=>match sF σ p q.1 q.2 x with
  |some y=>YC σ p r y
  |none=>none
def RZ(σ:W4)(e:Ty):KX (Nat×SV)->KX e.T->X1 (KX e.T)
 |[],xs=>some xs
 | q::r,xs=>bif Nat.blt q.1 xs.length then (match q.2.asV σ e with
  |some y=>RZ σ e r (xs.set q.1 y)
  |none=>none)else none
def dY(σ:W4)(t:Ty)(ps:KX (Nat×SV)):X1 Z8:=
 match t with
 | .agg p=>(YC σ p ps p.Q8).map λx=>.v (.val (.agg p) x)
 | .arr n e=>(RZ σ e ps (List.replicate n e.Q8)).map λx=>.v (.val (.arr n e) x)
 |_=>none
def sG(σ:W4)(u:Ty):SV->X1 SV
 | .nilS=>match u with
  | .slice _=>some .nilS
  |_=>none
 | .obj k g=>match RQ σ k g u with
  |some x=>some (.val u x)
  |none=>match u with
   | .slice _=>some (.obj k g)
   | .map _ _=>some (.obj k g)
   |_=>none
 |s=>(s.asV σ u).map (.val u ·)
def sH(σ:W4)(p:Ty)(i:Nat)(s c:SV):X1 SV:=
 bif Nat.blt i p.fields then (match p.sub (GK p.fields i) with
  |some u=>match sG σ u s with
   |some l=>c.setAt (GK p.fields i) l
   |none=>none
  |none=>none)else none
def VI(σ:W4)(p:Ty):KX (Nat×SV)->SV->X1 SV
 |[],c=>some c
 |q::r,c=>match sH σ p q.1 q.2 c with
  |some d=>VI σ p r d
  |none=>none
def OQ(id:Nat)(t:Ty)(x:t.T):(u:Ty)->X1 u.T
 | .ialt j a r=>bif Nat.beq id j then(Ty.cast? t a x).map Sum.inl else(OQ id t x r).map Sum.inr
 |_=>none
def loadAt(σ:W4)(t:Ty):SV->X1 SV
 | .ref u x=>(OO u t x).map (.val t ·)
 | .ptr k p _=>match σ k with
  |some (.box _ c _)=>match c.l6 p with
   | some (.obj j g)=>(match t with
    | .slice _=>some (.obj j g)
    | .map _ _=>some (.obj j g)
    |_=>none)
   | some (.ptr j q u)=>(match t with
    | .ptr _=>some (.ptr j q u)
    |_=>none)
   | some (.mns e x)=>(match t with
    | .slice _=>some (.mns e x)
    |_=>none)
   | some (.fn f caps)=>(match t with
    | .hV _ _=>some (.fn f caps)
    |_=>none)
   |some s=>(s.asC σ t).map (.val t ·)
   |none=>none
  |_=>none
 | .ptri k p i q _=>match σ k with
  |some (.box _ c _)=>match c.l6 p with
   |some (.val (.arr _ e) xs)=>match Ty.at e q ((show KX e.T from xs).getD i e.Q8)with
    |some ⟨u,y⟩=>(OO u t y).map (.val t ·)
    |none=>none
   |_=>none
  |_=>none
 | .elem k g i q _=>match σ k with
  | some (.sl _ e xs g' true)=>bif Nat.beq g g' then (match Ty.at e q (xs.getD i e.Q8) with
   |some ⟨u,y⟩=>(OO u t y).map (.val t ·)
   |none=>none)else none
  | some (.dp [_] e xs _ none true)=>bif Nat.beq g 0 then (match Ty.at e q ((show KX e.T from xs).getD i e.Q8) with
   |some ⟨u,y⟩=>(OO u t y).map (.val t ·)
   |none=>none)else none
  | some (.dp (_::id2::r) e xs _ _ true)=>(match q,t with
   |[],.slice _=>bif Nat.beq g 0 then some (.lnS ((show KX (KX (E5 r e).T)from xs).getD i []).length)else none
   |_,_=>none)
  |_=>none
 |_=>none
def H7:Ty->SV
 | .prod a b=>.pr (H7 a) (H7 b)
 | .slice _=>.nilS
 | .agg (.prod a b)=>.pr (H7 a) (H7 b)
 |t=>.val t t.Q8
def VJ(t:Ty):SV->X1 SV
 | .obj k g=>(match t with
  | .slice _=>some (.obj k g)
  | .map _ _=>some (.obj k g)
  |_=>none)
 | .ptr k p u=>(match t with
  | .ptr _=>some (.ptr k p u)
  |_=>none)
 | .bt u c=>bif u.same t then some c else none
 | .fn f caps=>(match t with
  | .hV _ _=>some (.fn f caps)
  |_=>none)
 | .nns e x=>(match t with
  | .slice _=>some (.nns e x)
  |_=>none)
 | .nilS=>(match t with
  | .slice _=>some .nilS
  |_=>none)
 |s=>(s.as t).map (.val t ·)
def A2J(c:SV)(p:KX X5)(n:Nat)(e:Ty)(xs:KX e.T)(i:Nat)(z:e.T):X1 SV:=c.setAt p (.val (.arr n e) (xs.set i z))
def VK(σ:W4)(t:Ty):SV->X1 SV
 | .ptr k p u=>match t with
  | .agg (.prod a b)=>bif u.bare.same (.prod a b) then (match σ k with
   |some (.box _ c _)=>match c.l6 p with
    |some s=>some (.bt (.agg (.prod a b)) s)
    |none=>none
   |_=>none)else none
  |_=>none
 |_=>none
def YD(σ:W4)(t:Ty)(ps:KX (Nat×SV)):X1 Z8:=
 match t with
 | .agg (.prod a b)=>(VI σ (.prod a b) ps (H7 (.prod a b))).map λc=>.v (.bt (.agg (.prod a b)) c)
 |_=>none
def storeAt(σ:W4)(t:Ty)(v:SV):SV->X1 (Nat×Obj)
 | .ptr k p u=>if u.bare.same t.bare=true then (match σ k with
  |some (.box b c true)=>match VJ t v with
   |some s=>(c.setAt p s).map λc'=>(k,.box b c' true)
   |none=>none
  |_=>none)else none
 | .ptri k p i q _=>match σ k with
  |some (.box b c true)=>match c.l6 p with
   |some (.val (.arr n e) xs)=>match v.as t with
    |some y=>match Ty.put e q ((show KX e.T from xs).getD i e.Q8) t y with
     |some z=>(A2J c p n e xs i z).map λc'=>(k,.box b c' true)
     |none=>none
    |none=>none
   |_=>none
  |_=>none
 | .elem k g i q _=>match σ k with
  | some (.sl id e xs g' true)=>bif Nat.beq g g' then (match v.asV σ t with
   |some y=>match Ty.put e q (xs.getD i e.Q8) t y with
    |some z=>some (k,.sl id e (xs.set i z) g true)
    |none=>none
   |none=>none)else none
  | some (.dp [id] e xs gk none true)=>bif Nat.beq g 0 then (match v.asV σ t with
   |some y=>match Ty.put e q ((show KX e.T from xs).getD i e.Q8) t y with
    |some z=>some (k,.dp [id] e ((show KX e.T from xs).set i z) gk none true)
    |none=>none
   |none=>none)else none
  |_=>none
 |_=>none
def YE(t:Ty):X5:=bif Nat.beq t.fields 1 then t.bare.same t else true
def O1(t:Ty)(f:Nat)(s:SV):X1 SV:=
 bif YE t then (match s with
  | .ptr k p u=>if u.bare.same t=true then(t.sub (GK t.fields f)).map λv=>.ptr k (p++GK t.fields f) v else none
  | .ptri k p i q u=>if u.bare.same t=true then(t.sub (GK t.fields f)).map λv=>.ptri k p i (q++GK t.fields f) v else none
  | .elem k g i q u=>if u.bare.same t=true then(t.sub (GK t.fields f)).map λv=>.elem k g i (q++GK t.fields f) v else none
  | .ref u x=>match NZ u t x with
   |some y=>match Ty.at t (GK t.fields f) y with
    |some ⟨v,z⟩=>some (.ref v z)
    |none=>none
   |none=>none
  |_=>none)else none
def YF(e:Ty)(xs:KX e.T)(i:Int):Z8:=.may e.T (at? xs i) e.Q8 λx=>⟨.ref e x,[]⟩
def sI(σ:W4)(t:Ty)(i:Int)(s:SV):X1 Z8:=
 match t with
 | .slice e=>match s with
  | .obj k g=>match σ k with
   | some (.sl _ e' xs g' w)=>bif Nat.beq g g'&&e'.same e then (bif w then some (.may Unit (in? xs.length i) () λ_=>⟨.elem k g i.toNat [] e',[]⟩)
    else some (YF e' xs i))else none
   | some (.dp (id::r) t' xs gk h w)=>bif Nat.beq g 0&&(E5 r t').same e then (bif w then some (.may Unit (in? (show KX (E5 r t').T from xs).length i) () λ_=>⟨.elem k g i.toNat [] (E5 r t'),[]⟩)
    else some (YF (E5 r t') xs i))else none
   |_=>none
  |s=>match s.as (.slice e)with
   |some xs=>some (YF e xs i)
   |none=>none
 | .arr n e=>match RT σ s with
  | .ptr k p u=>bif u.same (.arr n e)then some (.may Unit (in? n i) () λ_=>⟨.ptri k p i.toNat [] e,[]⟩)else none
  | .ref u x=>match Ty.cast? u (.arr n e) x with
   |some xs=>some (YF e xs i)
   |none=>none
  |_=>none
 |_=>none
def A2K(s:DO)(i:Int):Z8:=.may UInt8 (at? s i) 0 λb=>⟨.val (.int .u8) (b.toNat:Int),[]⟩
def A2L(e:Ty)(xs:KX e.T)(i:Int):Z8:=.may e.T (at? xs i) e.Q8 λx=>⟨.val e x,[]⟩
def sJ(t:Ty)(i:Int)(s:SV):X1 Z8:=
 match t with
 | .str=>match s with
  | .val .str s=>some (A2K s i)
  |_=>none
 | .arr n e=>match s with
  | .val u x=>match Ty.cast? u (.arr n e) x with
   |some xs=>some (A2L e xs i)
   |none=>none
  |_=>none
 |_=>none
def YG(n:Nat):Z8:=.v (.val (.int .i64) (n:Int))
def AFr(s:DO):Z8:=YG s.length
def sK(e:Ty)(xs:KX e.T):Z8:=YG xs.length
def len? (n:Nat):X1 Int:=bif Nat.ble n 281474976710656 then some (n:Int)else none
def A2M(n:Nat):Z8:=.may Int (len? n) 0 λk=>⟨.val (.int .i64) k,[]⟩
def A2N(a b:Ty)(es:KX (a.T×b.T)):Z8:=A2M es.length
def sL(σ:Nat→X1 Obj)(t:Ty)(s:SV):X1 Z8:=
 match t with
 | .str=>match s with
  | .val .str s=>some (AFr s)
  |_=>none
 | .arr n _=>bif Nat.ble n 281474976710656 then some (YG n)else none
 | .slice e=>match s with
  | .obj k g=>match σ k with
   |some (.sl _ e' xs g' _)=>bif Nat.beq g g' then some (sK e' xs)else none
   |some (.dp (id::r) t' xs gk h w)=>bif Nat.beq g 0 then some (sK (E5 r t') xs)else none
   |_=>none
  | .lnS n=>some (YG n)
  |s=>match s.as (.slice e)with
   |some xs=>some (sK e xs)
   |none=>none
 | .map a b=>match s with
  | .obj k g=>match σ k with
   |some (.mp a' b' es _)=>bif Nat.beq g 0 then some (A2N a' b' es)else none
   |_=>none
  | .val u x=>match Ty.cast? u (.map a b) x with
   |some es=>some (A2N a b es)
   |none=>none
  |_=>none
 |_=>none
def R_(sl:X1 SV)(d:Int):X1 Int:=match sl with
 |some (.val (.int _) n)=>some n
 |none=>some d
 |_=>none
def sM(s:DO)(lo hi:X1 SV):X1 Z8:=match R_ lo 0,R_ hi s.length with
 |some l,some h=>some (.may DO (cut? s l h) [] λy=>⟨.val .str y,[]⟩)
 |_,_=>none
def VL(e:Ty)(xs:KX e.T)(lo hi:X1 SV):X1 Z8:=match R_ lo 0,R_ hi xs.length with
 |some l,some h=>some (.may (KX e.T) (cut? xs l h) [] λy=>⟨.val (.slice e) y,[]⟩)
 |_,_=>none
def sN(σ:W4)(t:Ty)(x:SV)(lo hi:X1 SV):X1 Z8:=
 match t with
 | .str=>match x with
  | .val .str s=>sM s lo hi
  |_=>none
 | .slice e=>match x.asV σ (.slice e)with
  |some xs=>VL e xs lo hi
  |none=>none
 |_=>none
def dZ(σ:W4)(t:Ty)(x:SV)(lo hi:X1 SV):X1 Z8:=
 match t with
 | .arr n e=>match RT σ x with
  | .ref u y=>match Ty.cast? u (.arr n e) y with
   |some xs=>bif Nat.ble n 281474976710656 then VL e xs lo hi else none
   |none=>none
  |_=>none
 |t=>sN σ t x lo hi
def sO:SV->Nat->X1 Z8
 | .tup l,i=>match l.list[i]? with
  |some s=>some (.v s)
  |none=>none
 |_,_=>none
def YH(ke:X5)(k v:Ty)(ok:X5)(key:SV)(es:KX (k.T×v.T)):X1 Z8:=match dW ke k,key.as k with
 |some eq,some x=>some (.v (bif ok then .tup (.scons (.val v ((DY eq x es).getD v.Q8)) (.scons (.val .bool (DY eq x es).isSome) .snil))else .val v ((DY eq x es).getD v.Q8)))
 |_,_=>none
def d_(σ:W4)(ke:X5)(t:Ty)(ok:X5)(m key:SV):X1 Z8:=
 match t with
 | .map k v=>match m with
  | .val u es=>match Ty.cast? u (.map k v) es with
   |some es=>YH ke k v ok key es
   |none=>none
  | .obj j g=>match σ j with
   |some (.mp k' v' es _)=>bif Nat.beq g 0&&(k'.same k&&v'.same v)then YH ke k' v' ok key es else none
   |some (.mg _ k' t' es _ _)=>bif Nat.beq g 0&&(k'.same k&&(Ty.slice t').same v)then YH ke k' (.slice t') ok key es else none
   |_=>none
  |_=>none
 |_=>none
def e9(σ:W4)(self:Nat)(t:Ty)(m key:SV):X1 Z8:=
 match t with
 | .map k v=>match m with
  | .obj j g=>match σ j with
   | some (.mg id k' t' es none _)=>bif Nat.beq g 0&&(k'.same k&&(Ty.slice t').same v) then (match O0 k',key.as k' with
    |some eq,some a=>some (.pure ⟨.obj self 0,[(self,some (.sl id t' ((DY eq a es).getD []) 0 false)),(j,some (.mg id k' t' es (some a) (self+1)))]⟩)
    |_,_=>none)else none
   |_=>none
  |_=>none
 |_=>none
def sP(σ:W4)(self:Nat)(t:Ty)(m key x:SV):X1 Z8:=
 match t with
 | .map k v=>match m,x with
  | .obj j g,.obj i h=>match σ j,σ i with
   |some (.mg id k' t' es tk _),some (.sl id2 t2 xs h2 false)=>
    bif Nat.beq g 0&&((k'.same k&&(Ty.slice t').same v)&&(Nat.beq h 0&&(Nat.beq h2 0&&(Nat.beq id id2 && !(Nat.beq i j))))) then (match O0 k',key.as k',Ty.cast? (.slice t2) (.slice t') xs with
     |some eq,some a,some ys=>match tk with
      |none=>some (.pure ⟨.undef,[(j,some (.mg id k' t' (EE eq a ys es) none (self+1))),(i,none)]⟩)
      |some q=>some (.may Unit (bif eq q a then some ()else none) () λ_=>⟨.undef,[(j,some (.mg id k' t' (EE eq a ys es) none (self+1))),(i,none)]⟩)
     |_,_,_=>none)else none
   |_,_=>none
  |_,_=>none
 |_=>none
def A2O(el self:Nat)(k:Ty):Ty->X1 Z8
 | .slice e=>some (.pure ⟨.obj self 0,[(self,some (.mg el k e [] none (self+1)))]⟩)
 |_=>none
def A2P(σ:W4):SV->X5
 | .obj j _=>match σ j with
  |some (.mg _ _ _ _ _ _)=>true
  |_=>false
 |_=>false
def A2Q(σ:W4)(self:Nat)(t:Ty)(m:SV):X1 Z8:=
 match t with
 | .map k v=>match m.asV σ (.map k v)with
  |some es=>some (.pure ⟨.obj self 0,[(self,some (.it k v es))]⟩)
  |none=>none
 |_=>none
def eA(σ:W4)(ke:X5)(t:Ty)(m key x:SV):X1 Z8:=
 match t with
 | .map k v=>match m with
  | .obj j g=>match σ j with
   | some (.mp k' v' es true)=>bif Nat.beq g 0&&(k'.same k&&v'.same v) then (match dW ke k',key.as k',x.asV σ v' with
    |some eq,some a,some b=>some (.pure ⟨.undef,[(j,some (.mp k' v' (EE eq a b es) true))]⟩)
    |_,_,_=>none)else none
   |_=>none
  |_=>none
 |_=>none
def YI(σ:W4)(w:X5)(self id:Nat)(t:Ty)(s x:SV):X1 Z8:=
 match t with
 | .slice e=>match x.asV σ (.slice e)with
  |some ys=>match s with
   | .nilS=>some (.may (KX e.T) (app? (24*e.sz) [] ys) [] λzs=>⟨.obj self 0,[(self,some (.sl id e zs 0 w))]⟩)
   | .obj k g=>match σ k with
    | some (.sl id' e' xs g' w')=>bif Nat.beq g 0&&(Nat.beq g' 0&&Nat.beq id id') then (match Ty.cast? (.slice e') (.slice e) xs with
     |some xs=>some (.may (KX e.T) (app? (24*e.sz) xs ys) [] λzs=>⟨.obj self 0,[(self,some (.sl id e zs 0 w')),(k,none)]⟩)
     |none=>none)else none
    |_=>none
   |_=>none
  |none=>none
 |_=>none
def eB(σ:W4)(self id:Nat)(t:Ty)(s x:SV):X1 Z8:=
 match t,s with
 | .slice e,.obj k g=>match σ k with
  | some (.dp [id'] e' xs _ none true)=>bif Nat.beq g 0&&(Nat.beq id id'&&e'.same e) then (match x.asV σ (.slice e') with
   |some ys=>some (.may (KX e'.T) (app? (24*e'.sz) (show KX e'.T from xs) ys) [] λzs=>⟨.obj self 0,[(self,some (.dp [id'] e' zs (self+1) none true)),(k,none)]⟩)
   |none=>none)else none
  |_=>none
 |_,_=>none
def eC(σ:W4)(n:Nat)(p c:SV):X1 (KX (Nat×X1 Obj)):=match p,c with
 | .elem k _ _ _ _,.obj j _=>match σ k with
  | some (.dp (id::id2::r) e xs gk (some [i]) true)=>bif Nat.beq gk (j+2) then (match σ j with
   | some (.dp ids e' y _ none true)=>bif PV ids (id2::r) then (match Ty.cast? (E5 ids e') (E5 (id2::r) e) y with
    |some y=>some [(k,some (.dp (id::id2::r) e ((show KX (E5 (id2::r) e).T from xs).set i y) n none true)),(j,none)]
    |none=>none)else none
   |_=>none)else none
  |_=>none
 |_,_=>none
def eE(self k id:Nat)(e:Ty)(xs:KX e.T)(lo hi:X1 SV):X1 Z8:=match R_ lo 0,R_ hi xs.length with
 |some l,some h=>some (.may (KX e.T) (cut? xs l h) [] λy=>⟨.obj self 0,[(self,some (.dp [id] e y (self+1) none true)),(k,none)]⟩)
 |_,_=>none
def YJ(σ:W4)(self:Nat)(t:Ty)(x:SV)(lo hi:X1 SV):X1 Z8:=
 match t,x with
 | .slice e,.obj k g=>match σ k with
  |some (.dp [id] e' xs _ none true)=>bif Nat.beq g 0&&e'.same e then eE self k id e' xs lo hi else none
  |some (.sl id e' xs g' true)=>bif Nat.beq g 0&&(Nat.beq g' 0&&e'.same e)then eE self k id e' xs lo hi else none
  |_=>none
 |_,_=>none
def YK(σ:Nat→X1 Obj)(self:Nat)(t:Ty)(a:SV):X1 Z8:=match a with
 | .elem k g i [] _=>match σ k with
  |some (.dp (id::id2::r) e xs gk none true)=>bif Nat.beq g 0&&(E5 (id2::r) e).same t then
   some (.pure ⟨.obj self 0,[(self,some (.dp (id2::r) e ((show KX (E5 (id2::r) e).T from xs).getD i (E5 (id2::r) e).Q8) (self+1) none true)),(k,some (.dp (id::id2::r) e xs (self+2) (some [i]) true))]⟩)else none
  |_=>none
 |_=>none
def sQ(i:Nat):X1 (KX Nat)->X5
 |none=>true
 |some [j]=>Nat.beq j i
 |some _=>false
def eF(σ:Nat→X1 Obj)(self:Nat)(t:Ty)(v a:SV):X1 Z8:=match a with
 | .elem k g i [] _=>match σ k with
  | some (.dp (id::id2::r) e xs gk h true)=>bif Nat.beq g 0&&((E5 (id2::r) e).same t && !(F4 k (GQ v))) then (match RU σ (id2::r) e v with
   |some y=>some (.may Unit (bif sQ i h then some ()else none) () λ_=>⟨.undef,(k,some (.dp (id::id2::r) e ((show KX (E5 (id2::r) e).T from xs).set i y) (self+1) none true))::gone (GQ v)⟩)
   |none=>none)else none
  |_=>none
 |_=>none
def TI(el:Nat→Nat):Nat→Nat→KX Nat
 |0,_=>[]
 |n+1,t=>el t::TI el n (el t)
def A2R:Nat->Ty->X1 Ty
 |0,t=>some t
 |n+1,.slice t=>A2R n t
 |_,_=>none
def sR(σ:W4)(w:X5)(self id:Nat)(t t':Ty)(s x:SV):X1 Z8:=
 match t,t',x with
 | .slice (.int .u8),.str,.val .str ys=>YI σ w self id (.slice (.int .u8)) s (.val (.slice (.int .u8)) (FZ ys))
 |_,_,_=>none
def YL(a b:Int):Int:=bif decide (b<a)then b else a
def YM(a b:Int):Int:=bif decide (a<b)then b else a
def IS:(ps:KX Sh)->KX SV->KX Mk->KX (Nat×X1 Obj)
 | .box _::ps,.ptr k _ _::vs,m::ms=>(match m.obs with|(_,o)::r=>(k,o)::r|[]=>[])++IS ps vs ms
 | .io _ _::ps,.obj k _::vs,m::ms=>(match m.obs with|(_,o)::r=>(k,o)::r|[]=>[])++IS ps vs ms
 | .io _ _::ps,_::vs,_::ms=>IS ps vs ms
 | .R9 _ false::ps,.ptr k _ _::vs,m::ms=>(match m.obs with|(_,some (.box t (.pr _ y) w))::r=>(k,some (.box t (.pr (.slf k) y) w))::r|_=>[])++IS ps vs ms
 |_::ps,_::vs,ms=>IS ps vs ms
 |_,_,_=>[]
def Ty.lit:Ty->X5
 | .bool=>true
 | .int _=>true
 | .str=>true
 |_=>false
def YN(σ:W4)(k g:Nat)(t:Ty):X1 t.T:=
 match σ k with
 |some (.sl _ e xs g' _)=>if Nat.beq g g' then Ty.cast? (.slice e) t xs else none
 |some (.mp a b es _)=>if Nat.beq g 0 then Ty.cast? (.map a b) t es else none
 |some (.dp (i::r) e x _ h w)=>if Nat.beq g 0&&(!w||h.isNone)then Ty.cast? (E5 (i::r) e) t x else none
 |_=>none
def SV.rI(σ:W4)(t:Ty):SV->X1 t.T
 | .obj k g=>YN σ k g t
 |s=>s.asC σ t
def SV.asCR(σ:W4):(t:Ty)->SV->X1 t.T
 | .prod a b=>λs=>match s with
  | .pr x y=>match SV.asCR σ a x,SV.asCR σ b y with
   |some u,some v=>some (u,v)
   |_,_=>none
  |s=>s.asC σ (.prod a b)
 | .agg p=>λs=>match s with
  | .val u x=>NZ u p x
  |s=>SV.asCR σ p s
 | .unit=>SV.rI σ .unit
 | .bool=>SV.rI σ .bool
 | .int k=>SV.rI σ (.int k)
 | .str=>SV.rI σ .str
 | .slice e=>SV.rI σ (.slice e)
 | .arr n e=>SV.rI σ (.arr n e)
 | .ptr e=>SV.rI σ (.ptr e)
 | .map k v=>SV.rI σ (.map k v)
 | .inil=>SV.rI σ .inil
 | .ialt i t r=>SV.rI σ (.ialt i t r)
 | .self=>SV.rI σ .self
 | .opq=>SV.rI σ .opq
 | .hV d c=>SV.rI σ (.hV d c)
def eG(σ:W4)(t:Ty)(v:SV):X1 t.T:=match t,v with
 | .ptr e,.ptr k [] _=>match σ k with
  |some (.box t' c true)=>bif t'.same e.bare then(c.asCR σ e).map some else none
  |_=>none
 |t,.obj k g=>YN σ k g t
 |t,.bt u c=>bif u.same t then c.asCR σ t else none
 |t,v=>v.asV σ t
def sS(σ:W4)(t:Ty)(s:SV):X1 t.T:=match eG σ t s with
 |some x=>some x
 |none=>VA σ t s
def eH(σ:W4):(l:KX Sh)->KX SV->X1 (Z5 l)
 |[],[]=>some ()
 | .val t::r,s::w=>match sS σ t s,eH σ r w with
  |some x,some y=>some (TE (.val t) r x y)
  |_,_=>none
 |_,_=>none
def YO(σ:W4)(cs:KX SV):Nat->(ps:KX Sh)->(d:Ty)->d.T->X1 (Z5 ps)
 |0,.val t::r,d,x=>bif N0 d then none else match Ty.cast? d t x,eH σ r cs with
  |some u,some v=>some (TE (.val t) r u v)
  |_,_=>none
 |n+1,.val t::r,.prod p q,x=>match Ty.cast? p t x.1,YO σ cs n r q x.2 with
  |some u,some v=>some (TE (.val t) r u v)
  |_,_=>none
 |_,_,_,_=>none
def eI(fs:Nat->X1 Q2)(σ:W4)(d c:Ty):SV->X1 (d.T->X1 c.T)
 | .fn f caps=>match fs f with
  |some sp=>bif PT caps&&V9 sp.ps then some (λx=>(YO σ caps.list (Y1 d) sp.ps d x).bind λv=>(sp.F v).bind λr=>TD _ c r)else none
  |_=>none
 |_=>none
def eJ(fs:Nat->X1 Q2)(σ0 σ:W4):(s:Sh)->SV->X1 s.T
 | .val t,v=>eG σ0 t v
 | .own id t w,v=>LR σ id t w v
 | .hof nd d c,v=>bif nd then none else eI fs σ0 d c v
 |_,_=>none
def VM(fs:Nat->X1 Q2)(σ0 σ:W4):(l:KX Sh)->KX SV->X1 (Z5 l)
 |[],[]=>some ()
 |[a],[v]=>eJ fs σ0 σ a v
 |a::b::r,v::w=>match eJ fs σ0 σ a v,VM fs σ0 σ (b::r) w with
  |some x,some y=>some (x,y)
  |_,_=>none
 |_,_=>none
def YP:KX Sh->X5
 |[]=>true
 |a::r=>!(EX a)&&YP r
def O2:KX Sh->X5
 |[]=>true
 | .val t::r=>t.lit&&O2 r
 | .own _ t w::r=>w&&(t.lit&&O2 r)
 |_=>false
def A2S(fs:Nat->X1 Q2)(σ:W4)(sp:Q2)(args:KX SV):X1 (Z5 sp.ps):=
 bif O2 sp.rs&&(YP sp.ps&&(Nat.ble (GH (sp.rs++sp.ps.filter EX)) 8&&LT (GL σ sp.ps args)))then VM fs (EK σ (gone (GL σ sp.ps args))) σ sp.ps args else none
def sT(σ:W4)(self:Nat)(sp:Q2)(args:KX SV)(r:Z5 (sp.rs++sp.ps.filter EX)):n_:=
 let l:=FH (sp.rs++sp.ps.filter EX) r self
 let k:=sp.rs.length
 let rs:=l.take k
 ⟨match rs with
  |[m]=>m.sv
  |_=>.tup (SV.ofList (rs.map (·.sv))),rs.flatMap (·.obs)++(IS sp.ps args (l.drop k)++gone (GL σ sp.ps args))⟩
def sU(fs:Nat->X1 Q2)(σ:W4)(self:Nat)(f:Nat)(args:KX SV):X1 Z8:=
 match fs f with
 |some sp=>match bif Nat.ble (GH (sp.rs++sp.ps.filter EX)) 8 then RX fs σ sp.ps args else none with
  |some v=>some (.may (Z5 (sp.rs++sp.ps.filter EX)) (sp.F v) (Z5.Q8 _) (sT σ self sp args))
  |none=>match A2S fs σ sp args with
   |some v=>some (.may (Z5 (sp.rs++sp.ps.filter EX)) (sp.F v) (Z5.Q8 _) (sT σ self sp args))
   |none=>none
 |none=>none
def YQ(σ:W4):(d:Ty)->KX SV->X1 d.T
 | .prod a b,s::r=>match s.asV σ a,YQ σ b r with
  |some x,some y=>some (x,y)
  |_,_=>none
 |t,[s]=>s.asV σ t
 |_,_=>none
def sV(dr:X5)(fs:Nat->X1 Q2)(σ:W4)(self:Nat)(fv:SV)(args:KX SV):X1 Z8:=
 match fv with
 | .fn f caps=>bif PT caps then sU fs σ self f (args++caps.list)else none
 | .hof nd d c F=>match(bif !dr||nd then YQ σ d args else none)with
  |some x=>some (.may c.T (F x) c.Q8 λy=>⟨dJ c y,[]⟩)
  |none=>none
 | .val (.hV d c) y=>match(bif !dr then YQ σ d args else none)with
  |some x=>some (.may c.T (Option.bind (show X1 (d.T->X1 c.T)from y) λF=>F x) c.Q8 λy=>⟨dJ c y,[]⟩)
  |none=>none
 |_=>none
def eK(fs:Nat->X1 Q2)(mt:Nat->X1 Nat)(c:Ty):(u:Ty)->X1 (u.T->X1 c.T)
 | .inil=>some λ_=>none
 | .ialt id t r=>match mt id with
  |some f=>bif N0 t then none else match PU false fs (λ_=>none) t c (.fn f .snil),eK fs mt c r with
   |some F,some G=>some λx=>Sum.casesOn (motive:=λ_=>X1 c.T) (show Sum t.T r.T from x) F G
   |_,_=>none
  |none=>none
 |_=>none
def sW(fs:Nat->X1 Q2)(mt:String->Nat->X1 Nat)(c:Ty)(m:String):SV->X1 Z8
 | .val u x=>match eK fs (mt m) c u with
  |some F=>some (.may c.T (F x) c.Q8 λy=>⟨dJ c y,[]⟩)
  |none=>none
 |_=>none
def SV.rB:SV->SV
 | .val (.agg p) x=>.val p (show p.T from x)
 |s=>s
def sX(t:Ty):SV->X1 Z8
 | .val (.int _) n=>match t with
  | .int k=>some (.v (.val (.int k) (k.wrap (show Int from n))))
  |_=>none
 | .val .str s=>match t with
  | .str=>some (.v (.val .str s))
  |_=>none
 |_=>none
def VN(n:Int):KX UInt8:=(Utf8.encode n).data.toList
def sY(σ:W4)(st t:Ty)(x:SV):X1 Z8:=
 match t with
 | .slice (.int .u8)=>match x with
  | .val .str s=>some (.v (.val (.slice (.int .u8)) (FZ s)))
  |_=>none
 | .str=>match x with
  | .val .str s=>some (.v (.val .str s))
  | .val (.int _) n=>some (.v (.val .str (VN (show Int from n))))
  |s=>match bif st.same (.slice (.int .u8))then s.asV σ (.slice (.int .u8))else none with
   |some xs=>some (.may DO (cat? [] (IY xs)) [] λy=>⟨.val .str y,[]⟩)
   |none=>none
 |t=>sX t x
def sZ(self el:Nat)(t:Ty)(x:SV):X1 Z8:=
 match t,x with
 | .slice (.int .u8),.val .str s=>some (.pure ⟨.obj self 0,[(self,some (.sl el (.int .u8) (FZ s) 0 true))]⟩)
 |_,_=>none
def mks? {α:Type}(B:Nat)(l c:Int)(z:α):X1 (KX α):=
 bif decide (0<=l)&&(decide (l<=c)&&decide (c.toNat*B<=70368744177664))then some (List.replicate l.toNat z)else none
def VO(self n:Nat)(ids:KX Nat)(t:Ty)(a b:Int):X1 Z8:=match ids with
 |id::id2::r=>match A2R n t with
  |some u=>bif (E5 (id::id2::r) u).same t then
   some (.may (KX (E5 (id2::r) u).T) (mks? 24 a b (E5 (id2::r) u).Q8) [] λzs=>⟨.obj self 0,[(self,some (.dp (id::id2::r) u zs (self+1) none true))]⟩)else none
  |none=>none
 |_=>none
def s_(σ:W4)(t:Ty)(s:SV):X1 Z8:=match s with
 | .val (.ptr e) y=>bif e.same t then some (.may e.T (show X1 e.T from y) e.Q8 λz=>⟨.val e z,[]⟩)else none
 |s=>(loadAt σ t s).map .v
def tA(ty:Ty)(i:Nat):X1 Ty:=match ty with
 | .agg p=>p.sub (GK p.fields i)
 | .arr _ e=>some e
 |_=>none
def YR(fs:Nat->X1 Q2)(σ:W4)(t:X1 Ty)(s:SV):SV:=match t,s with
 |some (.hV d c),.fn f cs=>match PU false fs σ d c (.fn f cs)with
  |some F=>.val (.hV d c) (some F:X1 (d.T->X1 c.T))
  |none=>.fn f cs
 |_,s=>s
def VP(E:Env)(t:Nat)(ty:Ty):X5:=match ty with
 | .map k _=>E.eq (E.ky t)&&(match E.ty (E.ky t)with|some k'=>k'.same k|none=>false)
 |_=>false
def tB(E:Env)(ρ:Operand->SV)(ρt ρf:Operand->SV)(σ:W4)(self:Nat)(o:Oper):X1 Z8:=
 let wf:X5:=match o.dst with|some d=>E.wr d|none=>false
 let dd:Nat:=match o.dst with|some d=>E.dp d|none=>0
 match o.op with
 | .move x=>some (.v (ρ x))
 | .assign x=>some (.v (ρ x))
 | .pick c a b=>sE (ρ c) (ρt a) (ρf b)
 | .alloc t=>match E.ty t with
  |some ty=>some (.pure ⟨.ptr self [] ty.bare,[(self,some (.box ty.bare (H7 ty.bare) true))]⟩)
  |none=>none
 | .box t v=>match E.ty t with
  |some ty=>match VJ ty (ρ v)with
   |some c=>some (.pure ⟨.ptr self [] ty.bare,[(self,some (.box ty.bare c.rB true))]⟩)
   |none=>none
  |none=>none
 | .build t ps=>match E.ty t with
  |some ty=>bif wf then YD σ ty (ps.toList.map λp=>(p.1,ρ p.2))else dY σ ty (ps.toList.map λp=>(p.1,YR E.fs σ (tA ty p.1) (ρ p.2)))
  |none=>none
 | .buildSlice t len ps=>match E.ty t with
  |some (.slice e)=>match bif Nat.beq len 0 then(match ps.toList with|[]=>some ([]:KX e.T)|_=>none)else bif Nat.ble (len*e.sz) 16777216 then RZ σ e (ps.toList.map λp=>(p.1,ρ p.2)) (List.replicate len e.Q8)else none with
   |some xs=>some (.pure ⟨.obj self 0,[(self,some (.sl (E.el t) e xs 0 wf))]⟩)
   |none=>none
  |_=>none
 | .insert t m k v=>match E.ty t with
  |some ty=>eA σ (VP E t ty) ty (ρ m) (ρ k) (ρ v)
  |none=>none
 | .mapUpdate t m k v=>match E.ty t with
  |some ty=>bif A2P σ (ρ m)then sP σ self ty (ρ m) (ρ k) (ρ v)else eA σ (VP E t ty) ty (ρ m) (ρ k) (ρ v)
  |none=>none
 | .load t a=>match E.ty t with
  | some ty=>bif wf then (match YK σ self ty (ρ a) with
   |some r=>some r
   |none=>(VK σ ty (ρ a)).map .v)else s_ σ ty (ρ a)
  |none=>none
 | .store t a v=>match E.ty t with
  | some ty=>(match eF σ self ty (ρ v) (ρ a) with
   |some r=>some r
   |none=>(storeAt σ ty (ρ v) (ρ a)).map λp=>.pure ⟨.undef,[(p.1,some p.2)]⟩)
  |none=>none
 | .nilCheck x=>match ρ x with
  | .ptr k p u=>some (.v (.ptr k p u))
  | .ptri k p i q u=>some (.v (.ptri k p i q u))
  | .ref t y=>some (.v (.ref t y))
  | .val (.ptr e) y=>some (.may e.T (show X1 e.T from y) e.Q8 λz=>⟨.ref e z,[]⟩)
  | .val (.hV d c) y=>some (.may (d.T->X1 c.T) (show X1 (d.T->X1 c.T)from y) (λ_=>none) λF=>⟨.hof false d c F,[]⟩)
  |_=>none
 | .binOp op t x y _=>match sC op (E.ty t) (ρ x) (ρ y)with
  |some r=>some r
  |none=>match A2I (E.ty t) (E.eq t) op (ρ x) (ρ y)with
  |some r=>some r
  |none=>bif (match ρ x with| .val .bool _=>(match E.ty t with|some .bool=>true|_=>false)|_=>true)then dX op (ρ x) (ρ y)else none
 | .unOp op _ x=>sD op (ρ x)
 | .convert st t x=>match E.ty st,E.ty t with
  |some sy,some ty=>bif wf then sZ self (E.el t) ty (ρ x)else sY σ sy ty (ρ x)
  |_,_=>none
 | .makeInterface t x=>match E.ty t,E.ty o.type with
  |some a,some u=>bif a.isIface then none else match(ρ x).asV σ a with
   |some y=>(OQ t a y u).map λz=>.v (.val u z)
   |none=>none
  |_,_=>none
 | .makeFunc (.func f) first caps=>match first.toList with
  | []=>bif wf then (match E.ty o.type with
   |some (.hV d c)=>(PU false E.fs σ d c (.fn f (SV.ofList (caps.toList.map ρ)))).map λF=>.v (.val (.hV d c) (some F:X1 (d.T->X1 c.T)))
   |_=>none)else some (.v (.fn f (SV.ofList (caps.toList.map ρ))))
  |_=>none
 | .makeMap t h=>match E.ty t with
  |some (.map k v)=>bif (match h with|none=>true|some x=>(match ρ x with| .val (.int _) _=>true|_=>false))then(bif wf then A2O (E.el t) self k v else some (.pure ⟨.obj self 0,[(self,some (.mp k v [] true))]⟩))else none
  |_=>none
 | .range t m=>match E.ty t with
  |some ty=>A2Q σ self ty (ρ m)
  |none=>none
 | .makeSlice t l c=>match E.ty t,ρ l,ρ c with
  |some (.slice e),.val (.int .i64) a,.val (.int .i64) b=>
   match VO self dd (TI E.el dd t) (.slice e) a b with
   |some r=>some r
   |none=>some (.may (KX e.T) (mks? (24*e.sz) a b e.Q8) [] λzs=>⟨.obj self 0,[(self,some (.sl (E.el t) e zs 0 wf))]⟩)
  |_,_,_=>none
 | .slice t x lo hi none=>match E.ty t with
  | some ty=>(match bif wf then YJ σ self ty (ρ x) (lo.map ρ) (hi.map ρ) else none with
   |some r=>some r
   |none=>dZ σ ty (ρ x) (lo.map ρ) (hi.map ρ))
  |none=>none
 | .fieldAddr t x f=>match E.ty t with
  | some (.agg p)=>bif Nat.blt f p.fields then (match ρ x with
   | .val (.ptr e) y=>bif (O1 p f (.ref e e.Q8)).isSome then some (.may e.T (show X1 e.T from y) e.Q8 λz=>⟨(O1 p f (.ref e z)).getD .undef,[]⟩)else none
   |s=>(O1 p f s).map .v)else none
  |_=>none
 | .indexAddr t x i=>match E.ty t,ρ i with
  |some ty,.val (.int _) n=>sI σ ty n (ρ x)
  |_,_=>none
 | .index t x i=>match E.ty t,ρ i with
  |some ty,.val (.int _) n=>sJ ty n (ρ x)
  |_,_=>none
 | .lookup t m k ok=>match E.ty t with
  |some ty=>bif wf && !ok then e9 σ self ty (ρ m) (ρ k)else d_ σ (VP E t ty) ty ok (ρ m) (ρ k)
  |none=>none
 | .extract x i=>sO (ρ x) i
 | .call {callee:=.builtin b,args:=as,argTypes:=ts}=>match b,as.toList with
  | .len,[x]=>match ts.toList with
   |[t]=>match E.ty t with
    |some ty=>sL σ ty (ρ x)
    |none=>none
   |_=>none
  | .append,[s,x]=>match ts.toList with
   | [t,t']=>bif Nat.beq t t' then (match E.ty t with
    | some ty=>(match eB σ self (E.el t) ty (ρ s) (ρ x) with
     |some r=>some r
     |none=>YI σ wf self (E.el t) ty (ρ s) (ρ x))
    |none=>none)else(match E.ty t,E.ty t' with
    |some ty,some ty'=>sR σ wf self (E.el t) ty ty' (ρ s) (ρ x)
    |_,_=>none)
   |_=>none
  | .min,[x,y]=>match ρ x,ρ y with
   | .val (.int k) a,.val (.int l) c=>bif ON k l then some (.v (.val (.int k) (YL a c)))else none
   |_,_=>none
  | .max,[x,y]=>match ρ x,ρ y with
   | .val (.int k) a,.val (.int l) c=>bif ON k l then some (.v (.val (.int k) (YM a c)))else none
   |_,_=>none
  |_,_=>none
 | .call {callee:=.value f,args:=as,argTypes:=_}=>sV E.dr E.fs σ self (ρ f) (as.toList.map ρ)
 | .call {callee:=.invoke r m,args:=as,argTypes:=_}=>match as.toList,E.ty o.type with
  |[],some c=>sW E.fs E.mt c m (ρ r)
  |_,_=>none
 |_=>none
def hkP(σ:W4)(s:SV):KX Nat:=match s with
 | .ptr k p _=>match σ k with
  |some (.box _ c _)=>match c.l6 p with
   |some x=>Y9 σ x
   |none=>[]
  |_=>[]
 |_=>[]
def eL(E:Env)(ρ:Operand->SV)(σ:W4)(o:Oper):KX Nat:=match o.op with
 | .build _ ps=>bif (match o.dst with|some d=>E.wr d|none=>false)then []else ps.toList.flatMap λp=>hk σ (ρ p.2)
 | .buildSlice _ _ ps=>ps.toList.flatMap λp=>hk σ (ρ p.2)
 | .insert _ _ _ v=>hk σ (ρ v)
 | .mapUpdate _ _ _ v=>hk σ (ρ v)
 | .range _ m=>hk σ (ρ m)
 | .makeInterface _ x=>hk σ (ρ x)
 | .makeFunc _ _ caps=>bif (match o.dst with|some d=>E.wr d|none=>false)then(caps.toList.map ρ).flatMap (rW σ)else []
 | .convert _ _ x=>hk σ (ρ x)
 | .load t x=>match E.ty t with
  |some (.agg _)=>bif (match o.dst with|some d=>E.wr d|none=>false)then []else hkP σ (ρ x)
  |_=>[]
 | .indexAddr t x _=>match E.ty t with
  |some (.arr _ (.arr _ _))=>match ρ x with
   | .ptr k _ _=>match σ k with
    |some (.box _ _ true)=>[k]
    |_=>[]
   |_=>[]
  |_=>[]
 | .slice t x _ _ _=>match E.ty t with
  |some (.arr _ _)=>match ρ x with
   | .ptr k _ _=>match σ k with
    |some (.box _ _ true)=>[k]
    |_=>[]
   |_=>[]
  |_=>[]
 | .call {callee:=.builtin .append,args:=as,argTypes:=_}=>match as.toList with
  |[_,x]=>hk σ (ρ x)
  |_=>[]
 | .call {callee:=.value f,args:=as,argTypes:=_}=>match ρ f with
  | .fn n caps=>match E.fs n with
   |some sp=>bif (match o.dst with|some d=>Nat.beq (E.dp d) 9|none=>false)then []else bif (match o.dst with|some d=>E.wr d|none=>false)then rX σ sp.ps (as.toList.map ρ++caps.list)else rY σ sp.ps (as.toList.map ρ++caps.list)
   |none=>[]
  | .hof _ _ _ _=>as.toList.flatMap λx=>hk σ (ρ x)
  | .val (.hV _ _) _=>as.toList.flatMap λx=>hk σ (ρ x)
  |_=>[]
 |_=>[]
def Z8.also(fz:KX (Nat×X1 Obj)):Z8->Z8
 | .pure u=>.pure ⟨u.sv,u.wr++fz⟩
 | .may α m d u=>.may α m d λx=>⟨(u x).sv,(u x).wr++fz⟩
def VQ(E:Env)(ρ ρt ρf:Operand->SV)(σ:W4)(self:Nat)(o:Oper):X1 Z8:=
 match tB E ρ ρt ρf (EK σ (N_ σ (eL E ρ σ o))) self o with
 |some r=>some (r.also (N_ σ (eL E ρ σ o)))
 |none=>none
def S0(all:Array Oper)(sl:Nat->SV)(o:Oper):X1 (KX (Nat×X5)×X5):=match o.guard with
 |none=>some ([],true)
 |some (j,w)=>match all[j]? with
  |some p=>match p.dst with
   |some t=>match sl t with
    | .val .bool b=>some ([(t,w)],bif w then b else !b)
    | .grd tk g (.val .bool b)=>some ((t,w)::tk,g&&(bif w then b else !b))
    |_=>none
   |none=>none
  |none=>none
def YS(t:Nat×X5):KX (Nat×X5)->X5
 |[]=>false
 |u::r=>(Nat.beq t.1 u.1&&(bif t.2 then u.2 else !u.2))||YS t r
def SV.strip(tk:KX (Nat×X5)):SV->SV
 | .grd tk' _ s=>bif tk'.all (YS · tk)then s else .undef
 |s=>s
def S1(c:Operand)(w:X5)(tk:KX (Nat×X5)):KX (Nat×X5):=match c with
 | .tmp t=>(t,w)::tk
 |_=>tk
def AFs{α:Type}(tk:KX (Nat×X5))(g:X5)(m:X1 α)(d:α):X1 α:=match tk with
 |[]=>m
 |_=>bif g then m else some d
def O3(sl:Nat->SV)(d:X1 Nat)(s:SV):Nat->SV:=match d with
 |none=>sl
 |some d=>λt=>bif Nat.beq t d then s else sl t
def K0(self k:Nat):X5:=Nat.ble self k&&Nat.blt k (self+8)
def SV.names:SV->KX Nat
 | .obj k _=>[k]| .ptr k _ _=>[k]| .ptri k _ _ _ _=>[k]| .elem k _ _ _ _=>[k]
 | .fn _ c=>c.names| .pr a b=>a.names++b.names| .grd _ _ s=>s.names| .bt _ c=>c.names| .slf k=>[k]| .scons a b=>a.names++b.names
 |_=>[]
def tC(σ:W4):Nat->SV->KX Nat
 |0,s=>s.names
 |n+1,s=>s.names++s.names.flatMap λk=>match σ k with
  |some (.box _ c _)=>tC σ n c
  |_=>[]
def VR(ρ:Operand->SV)(σ:W4)(op:Op):KX Nat:=match op with
 | .move _=>[]| .assign _=>[]| .fieldAddr _ _ _=>[]| .nilCheck _=>[]| .extract _ _=>[]| .alloc _=>[]| .makeMap _ _=>[]
 | .load _ x=>match ρ x with
  | .ptr k p _=>k::(match σ k with
   |some (.box _ c _)=>match c.l6 p with
    |some (.obj _ _)=>[]
    |some y=>y.names
    |none=>[]
   |_=>[])
  |s=>tC σ 2 s
 |op=>op.operands.toList.flatMap λx=>tC σ 2 (ρ x)
def eM(b:Array Nat)(i j:Nat):X5:=bif Nat.blt i j then(b.getD j 0).testBit i else(b.getD i 0).testBit j
def YT(all:Array Oper)(o:Oper):KX Nat:=
 (o.op.operands.toList.filterMap fun | .tmp t=>some t | _=>none)++(match o.guard with
  |some (j,_)=>match all[j]? with
   |some p=>p.dst.toList
   |none=>[]
  |none=>[])++o.dst.toList
def eN:KX Nat->KX Nat->X5
 |[],_=>true
 |k::l,m=>!F4 k m&&eN l m
def YU(all:Array Oper)(cl:KX (KX Nat×KX Nat)):X5:=
 let b:=Region.before all
 let n:=all.size
 ((List.range n).all λi=>(all.getD i default).after.toList.all λe=>!(Region.binds .any e)||Nat.blt e.on i) &&
 (List.range n).all λi=>(List.range n).all λj=>Nat.beq i j||
  (((match (all.getD i default).dst with | some t=>!(YT all (all.getD j default)).contains t | none=>true)||eM b i j) &&
   (eN (cl.getD i ([],[])).1 (cl.getD j ([],[])).2||eM b i j))
def seen(all:Array Oper)(draw:X5)(n0 i:Nat)(F:KX Nat)(σ:W4):W4:=
 bif draw then λk=>bif F4 k F&&(Nat.blt k n0||((Region.before all).getD i 0).testBit ((k-n0) / 8))then σ k else none
 else σ
def n_.far(self:Nat)(u:n_):KX Nat:=(u.wr.filter λp=>!K0 self p.1).map (·.1)
def TJ(σ:W4)(self:Nat)(u:n_):X5:=u.wr.all λp=>K0 self p.1||(σ p.1).isSome
def LA(all:Array Oper):X5:=all.toList.any λo=>match o.guard with|some _=>true|none=>false
def YV(sl:Nat->SV):Nat->SV:=λt=>match sl t with
 | .grd _ _ _=>.undef
 |s=>s
def eO(all:Array Oper):KX Nat:=all.toList.filterMap (·.dst)
section
variable{Ω:Type}
def calm(tk:KX (Nat×X5))(u:n_):X5:=match tk with
 |[]=>true
 |_=>match u.wr with
  |[]=>true
  |_=>false
def VS:KX (Nat×X5)->X5
 |[_]=>true
 |_=>false
def eP(u:n_):SV:=match u.sv,u.wr with
 | .obj _ _,[(_,some (.sl _ e xs _ _))]=>.val (.slice e) xs
 |s,_=>s
def tD(tk:KX (Nat×X5))(g:X5)(r:Z8)(K:n_->X1 Ω):X1 Ω:=match r with
 | .pure u=>bif calm tk u then K u else bif VS tk then(bif g then K u else K ⟨eP u,[]⟩)else none
 | .may _ m d u=>Option.bind (AFs tk g m d) λx=>bif calm tk (u x)then K (u x)else bif VS tk then(bif g then K (u x)else K ⟨eP (u x),[]⟩)else none
def S4(tk:KX (Nat×X5))(g:X5)(s:SV):SV:=match tk with
 |[]=>s
 |tk=>.grd tk g s
def PY(E:Env)(all:Array Oper)(draw:X5)(n0:Nat):KX Oper->Nat->St->KX (KX Nat×KX Nat)->(St->KX (KX Nat×KX Nat)->X1 Ω)->X1 Ω
 |[],_,st,cl,K=>K st cl
 |o::rest,i,st,cl,K=>match S0 all st.slots o with
  |none=>none
  |some (tk,g)=>
   let ρ:=λx=>(GS st.slots x).strip tk
   let c:=VR ρ st.sto o.op
   let σ:=seen all draw n0 i c st.sto
   match VQ E ρ (match o.op with| .pick c _ _=>λx=>(GS st.slots x).strip (S1 c true tk)|_=>ρ)
    (match o.op with| .pick c _ _=>λx=>(GS st.slots x).strip (S1 c false tk)|_=>ρ) σ (n0+8*i) o with
   |none=>none
   |some r=>tD tk g r λu=>bif TJ σ (n0+8*i) u then
    PY E all draw n0 rest (i+1) {slots:=O3 st.slots o.dst (S4 tk g u.sv),sto:=EK st.sto u.wr,n:=st.n}
     ((u.far (n0+8*i),c)::cl) K
     else none
def YW(all:Array Oper):X5:=(List.range all.size).all λi=>match(all.getD i default).guard with
 |some (j,_)=>Nat.blt j i
 |none=>true
def VT(E:Env):KX Oper->St->St
 |[],st=>st
 |o::r,st=>match o.op,o.dst with
  | .load _ a,some d=>match bif E.wr d then eC st.sto st.n (GS st.slots a) (st.slots d)else none with
   |some u=>VT E r {slots:=st.slots,sto:=EK st.sto u,n:=st.n+1}
   |none=>VT E r st
  |_,_=>VT E r st
def tE(E:Env)(ops:Array Oper)(draw:X5)(st:St)(K:St->X1 Ω):X1 Ω:=
 bif LA ops && !(LT (eO ops)&&YW ops)then none else
 PY E ops draw st.n ops.toList 0 st [] λst' cl=>
  bif !draw||YU ops cl.reverse then
   K {slots:=bif LA ops then YV st'.slots else st'.slots,sto:=st'.sto,n:=st.n+8*ops.size}
  else none
def A2T(E:Env)(ops:Array Oper)(draw:X5)(st:St)(K:St->X1 Ω):X1 Ω:=tE E ops draw st λst'=>K (VT E ops.toList.reverse st')
def KC:Code->Nat
 | .seq a b=>KC a+KC b
 | .cond _ a b=>1+(KC a+KC b)
 | .block _ b=>KC b
 | .loop b=>1+KC b
 | .scope b=>KC b
 |_=>0
def YX(E:Env)(c:XY)(st:St)(K:Ex->St->X1 Ω):X1 Ω:=match bif RY c.al st.slots then OP E.fs c.QJ (KS c.QJ st)else none with
 |some v=>match c.nd with
  |none=>Option.bind (c.F v) λx=>YB (KS c.QJ st) c.wrs (GL (KS c.QJ st).sto c.QJ.sh (c.QJ.tm.map st.slots)) c.outs x λe st'=>K e (YA c.al c.wrs st')
  |some d=>RR (d.S v) λo=>Option.bind (d.F v o) λx=>YB (KS c.QJ st) c.wrs (GL (KS c.QJ st).sto c.QJ.sh (c.QJ.tm.map st.slots)) c.outs x λe st'=>K e (YA c.al c.wrs st')
 |none=>none
def tF(E:Env):Code->X1 XY
 | .region id _ _=>E.cut (1000000+id)
 |_=>none
def LB(E:Env):Code->Nat->St->(Ex->St->X1 Ω)->X1 Ω
 | .skip,_,st,K=>K .normal st
 | .region _ ops draw,_,st,K=>A2T E ops draw st (K .normal)
 | .seq a b,n,st,K=>match tF E a with
  |some s=>YX E s st K
  |none=>LB E a n st λe st'=>match e with
   | .normal=>LB E b (n+KC a) st' K
   |e=>K e st'
 | .cond c a b,n,st,K=>match E.cut n with
  |some s=>YX E s st K
  |none=>match GS st.slots c with
   | .val .bool t=>cond t (LB E a (n+1) st K) (LB E b (n+1+KC a) st K)
   |_=>none
 | .block id b,n,st,K=>LB E b n st λe st'=>match e with
  | .exit i=>bif Nat.beq i id then K .normal st' else K (.exit i) st'
  |e=>K e st'
 | .loop _,n,st,K=>match E.cut n with
  |some s=>YX E s st K
  |none=>none
 | .exit id,_,st,K=>K (.exit id) st
 | .ret,_,st,K=>K .ret st
 | .scope b,n,st,K=>LB E b n st K
 | .label _,_,st,K=>K .normal st
 |_,_,_,_=>none
end
def R7(fs:Nat->X1 Q2):(l:KX (Ex×Kp))->Ex->St->X1 (H6 l)
 |[],_,_=>none
 |[o],e,st=>bif sameEx o.1 e then OP fs o.2 (KS o.2 st)else none
 |o::p::r,e,st=>bif sameEx o.1 e then(OP fs o.2 (KS o.2 st)).map Sum.inl else(R7 fs (p::r) e st).map Sum.inr
 where sameEx:Ex->Ex->X5
 | .normal,.normal=>true
 | .exit i,.exit j=>Nat.beq i j
 | .ret,.ret=>true
 |_,_=>false
def tG(E:Env)(body:Code)(n:Nat)(al:KX (Nat×Nat))(QJ:Kp)(outs:KX (Ex×Kp))(next:Z5 QJ.sh->X1 (H6 outs))(v:Z5 QJ.sh):X1 (H6 outs):=
 LB E body n (VE al QJ v) λe st=>match e with
  | .normal=>match bif RY al st.slots then OP E.fs QJ (KS QJ st)else none with
   |some w=>next w
   |none=>none
  |e=>R7 E.fs outs e st
def eQ(E:Env)(c:Operand)(a b:Code)(n:Nat)(al:KX (Nat×Nat))(QJ:Kp)(outs:KX (Ex×Kp))(v:Z5 QJ.sh):X1 (H6 outs):=
 match GS (VE al QJ v).slots c with
 | .val .bool t=>cond t (LB E a (n+1) (VE al QJ v) (R7 E.fs outs)) (LB E b (n+1+KC a) (VE al QJ v) (R7 E.fs outs))
 |_=>none
def S5(ty:Nat->X1 Ty)(wr:Nat->X5)(st:St):KX ResultVar->X1 (KX SV)
 |[]=>some []
 | .tmp t::r=>match S5 ty wr st r with
  |some l=>some (st.slots t::l)
  |none=>none
 | .cell a t::r=>match ty t with
  |some u=>match bif wr a then VK st.sto u (st.slots a)else loadAt st.sto u (st.slots a)with
   |some s=>match S5 ty wr st r with
    |some l=>some (s::l)
    |none=>none
   |none=>none
  |none=>none
def KU:KX Sh->KX SV->KX SV
 | .box _::ps,v::vs=>v::KU ps vs
 | .io _ _::ps,v::vs=>v::KU ps vs
 | .R9 _ false::ps,v::vs=>v::KU ps vs
 |_::ps,_::vs=>KU ps vs
 |_,_=>[]
def eR(wr:Nat->X5)(st:St):KX ResultVar->KX Nat
 |[]=>[]
 | .tmp _::r=>eR wr st r
 | .cell a _::r=>(bif wr a then []else hkP st.sto (st.slots a))++eR wr st r
def TK(wr:Nat->X5)(st:St)(l:KX ResultVar):St:={slots:=st.slots,sto:=EK st.sto (N_ st.sto (eR wr st l)),n:=st.n}
def eS(E:Env)(fn:Func)(ps rs:KX Sh)(v:Z5 ps):X1 (Z5 (rs++ps.filter EX)):=
 let k:Kp:=⟨List.range ps.length,ps⟩
 let st0:=ID k v
 let fin:St->X1 (Z5 (rs++ps.filter EX)):=λst0=>
  let st:=TK E.wr st0 fn.results.toList
  match S5 E.ty E.wr st fn.results.toList with
  |some l=>RX E.fs (dU st.sto (rs++ps.filter EX) (l++KU ps ((List.range ps.length).map st.slots))) (rs++ps.filter EX) (l++KU ps ((List.range ps.length).map st.slots))
  |none=>none
 match fn.body with
 |some b=>LB E b 0 st0 λe st=>match e with
  | .normal=>fin st
  | .ret=>fin st
  | .exit _=>none
 |none=>none
structure Im where
 cell:Nat->Nat->Prop
 obj:Nat->Prop
variable{I I':Im}
structure Row(w:X4)(I:Im)(b o n:Nat)(cs:KX X2):Prop where
 len:cs.length=n
 at_:∀j,j<n->I.cell b (o+j)/\w.cell? ⟨b,o+j,none⟩=cs[j]?
def KV(t:Ty)(v:X2)(cs:KX X2):Prop:=match t with
 | .agg _=>v=.agg cs.toArray
 | .arr _ _=>v=.agg cs.toArray
 |_=>cs=[v]
def F_(k:IntKind)(n:Int):Prop:=k.min<=n/\n<=k.max
def IZ(n cap:Nat):Prop:=n<=cap/\n<=281474976710656
structure Ext(w:X4)(I:Im)(w':X4)(I':Im):Prop where
 cell:∀b o,I.cell b o->I'.cell b o/\w'.cell? ⟨b,o,none⟩=w.cell? ⟨b,o,none⟩
 obj:∀b,I.obj b->I'.obj b/\w'.heap[b]?=w.heap[b]?
def Ext.refl(w:X4)(I:Im):Ext w I w I:=⟨λ_ _ h=>⟨h,rfl⟩,λ_ h=>⟨h,rfl⟩⟩
theorem Ext.trans{I'':Im}(h:Ext w I w' I')(k:Ext w' I' w'' I''):Ext w I w'' I'':=
 ⟨λb o a=>⟨(k.cell b o (h.cell b o a).1).1,(k.cell b o (h.cell b o a).1).2.trans (h.cell b o a).2⟩,
  λb a=>⟨(k.obj b (h.obj b a).1).1,(k.obj b (h.obj b a).1).2.trans (h.obj b a).2⟩⟩
class CB where
 P:Program
 ok:World->Im->Prop
 ext:∀{w w':World} {I I':Im},ok w I->Ext w I w' I'->ok w' I'
variable [CB]
def Pinned(w:X4)(I:Im):Prop:=CB.ok w I
def Pinned.ext(h:Pinned w I)(e:Ext w I w' I'):Pinned w' I':=CB.ext h e
structure Q5(gv:Nat->Prop)(w:X4)(I:Im)(w':X4)(I':Im):Prop where
 ext:Ext w I w' I'
 heap:∀b,b<w.heap.size->¬gv b->w'.heap[b]?=w.heap[b]?
 size:w.heap.size<=w'.heap.size
 newC:∀b o,I'.cell b o->I.cell b o\/w.heap.size<=b\/gv b
 newO:∀b,I'.obj b->I.obj b\/w.heap.size<=b\/gv b
 inC:∀b o,I'.cell b o->b<w'.heap.size
 inO:∀b,I'.obj b->b<w'.heap.size
 os:w'.os=w.os
 tape:w'.tape=w.tape
 output:w'.output=w.output
 pins:Pinned w' I'
def I4(w:X4)(I:Im):Prop:=(∀b o,I.cell b o->b<w.heap.size)/\(∀b,I.obj b->b<w.heap.size)/\Pinned w I
def Q5.refl(h:I4 w I):Q5 gv w I w I:=
 ⟨Ext.refl _ _,λ_ _ _=>rfl,AD _,λ_ _ h=>.inl h,λ_ h=>.inl h,h.1,h.2.1,rfl,rfl,rfl,h.2.2⟩
def VU:Nat->Prop:=λ_=>False
theorem Q5.mono{gv':Nat->Prop}(h:Q5 gv w I w' I')(a:∀b,gv b->gv' b):Q5 gv' w I w' I':=
 ⟨h.ext,λb d e=>h.heap b d (λk=>e (a b k)),h.size,λb o k=>(h.newC b o k).imp id (Or.imp id (a b)),
  λb k=>(h.newO b k).imp id (Or.imp id (a b)),h.inC,h.inO,h.os,h.tape,h.output,h.pins⟩
def Q5.mem(h:Q5 gv w I w' I'):I4 w' I':=⟨h.inC,h.inO,h.pins⟩
theorem Q5.trans{gv':Nat->Prop}{I'':Im}(h:Q5 gv w I w' I')(k:Q5 gv' w' I' w'' I'')
 (l:∀b,gv' b->gv b\/w.heap.size<=b):Q5 gv w I w'' I'':=
 ⟨h.ext.trans k.ext,
  λb d j=>(k.heap b (AQ d h.size) (λhk=>(l b hk).elim j (λm=>absurd d (Nat.not_lt.2 m)))).trans (h.heap b d j),
  AM h.size k.size,
  λb o e=>by
   rcases k.newC b o e with a|a|a
   .exact h.newC b o a
   .exact .inr (.inl (AM h.size a))
   grind,
  λb e=>by
   rcases k.newO b e with a|a|a
   .exact h.newO b a
   .exact .inr (.inl (AM h.size a))
   grind,
  k.inC,k.inO,k.os.trans h.os,k.tape.trans h.tape,k.output.trans h.output,k.pins⟩
def FJ(P:Program)(f:Nat):Prop:=∃fn c,P.funcs[f]?=some fn/\(fn.name== "runtime.NumGoroutine")=false/\fn.body=some c
def eT:Ty->KX X2->KX X2->Prop
 | .prod a b,l,cs=>∃v r c d,l=v::r/\cs=c++d/\c.length=a.sz/\KV a v c/\eT b r d
 |t,l,cs=>∃v,l=[v]/\KV t v cs
def A2U(c:Ty)(rv:X2)(cs:KX X2):Prop:=match c with
 | .prod a b=>∃vs:Array X2,rv=.tuple vs/\eT (.prod a b) vs.toList cs
 |t=>KV t rv cs
def PE{α β:Type}(p es:KX (α×β)):Prop:=p.Perm es/\(es.map (·.1)).Nodup
def Rel(w:X4)(I:Im):(t:Ty)->t.T->KX X2->Prop
 | .unit,_,cs=>cs=[]
 | .bool,x,cs=>cs=[.bool x]
 | .int k,n,cs=>cs=[.int k n]/\F_ k n
 | .str,s,cs=>cs=[.string ⟨s.toArray⟩]/\(show KX UInt8 from s).length<=281474976710656
 | .slice e,xs,cs=>∃a cap,cs=[.slice a (show KX e.T from xs).length cap]/\IZ (show KX e.T from xs).length cap/\
  (a=none->(show KX e.T from xs)=[]/\cap=0)/\
  ∀ad,a=some ad→(cap≠0→ad.spot=none)∧∀i x,(show KX e.T from xs)[i]?=some x→∃c,Row w I ad.block (ad.off+i*e.sz) e.sz c∧Rel w I e x c
 | .agg t,x,cs=>Rel w I t x cs
 | .prod a b,x,cs=>∃c d,cs=c++d/\Rel w I a x.1 c/\Rel w I b x.2 d
 | .arr n e,xs,cs=>(show KX e.T from xs).length=n/\cs.length=n*e.sz/\
  ∀i x,(show KX e.T from xs)[i]?=some x->Rel w I e x ((cs.drop (i*e.sz)).take e.sz)
 | .ptr e,x,cs=>match(show X1 e.T from x)with
  |none=>cs=[.pointer none]
  |some y=>∃ad,cs=[.pointer (some ad)]/\ad.spot=none/\∃c,Row w I ad.block ad.off e.sz c/\Rel w I e y c
 | .map k v,es,cs=>∃p:KX (k.T×v.T),PE p (show KX (k.T×v.T)from es)/\∃r,cs=[.map r]/\(r=none->p=[])/\
  ∀b,r=some b->I.obj b/\∃Z6 clock,w.heap[b]?=some (.map Z6 clock)/\(Z6.size=p.length/\Go.MapKept.Stamped Z6 clock)/\
   ∀(i:Nat) (x:k.T×v.T) (e:MapEntry),p[i]?=some x->Z6[i]?=some e->
    (∃c,KV k e.key c/\Rel w I k x.1 c)/\(∃c,KV v e.val c/\Rel w I v x.2 c)
 | .inil,_,cs=>cs=[.nilIface]
 | .ialt id t r,x,cs=>match(show Sum t.T r.T from x)with
  | .inl y=>∃v c,cs=[.iface id v]/\KV t v c/\Rel w I t y c
  | .inr z=>cs.length=1/\Rel w I r z cs
 | .self,_,cs=>cs=[.pointer none]
 | .opq,_,cs=>∃v,cs=[v]/\v.oneCell'=true
 | .hV d c,F,cs=>match(show X1 (d.T->X1 c.T)from F)with
  |none=>cs=[.nilFunc]
  |some F=>∃f vs,cs=[.func (.func f) #[] vs]/\FJ CB.P f/\∀w' I',Ext w I w' I'->I4 w' I'->∀(x:d.T) (l ac:KX X2),eT d l ac->Rel w' I' d x ac->∀y,F x=some y->
    Calls CB.P f (l.toArray++vs) w' λe w''=>∃rv I'' rc,e=.returned rv/\Q5 VU w' I' w'' I''/\A2U c rv rc/\Rel w'' I'' c y rc
def Z4(w:X4)(I:Im)(t:Ty)(x:t.T)(v:X2):Prop:=∃c,KV t v c/\Rel w I t x c
section
variable{w w':X4}{I I':Im}
def Row.ext(h:Row w I b o n cs)(e:Ext w I w' I'):Row w' I' b o n cs:=
 ⟨h.len,λj a=>⟨(e.cell _ _ (h.at_ j a).1).1,(e.cell _ _ (h.at_ j a).1).2.trans (h.at_ j a).2⟩⟩
theorem Rel.ext(e:Ext w I w' I'):∀{t:Ty} {x:t.T} {cs:KX X2},Rel w I t x cs->Rel w' I' t x cs:=by
 intro t;induction t with
 |unit=>intro x cs h;exact h
 |bool=>intro x cs h;exact h
 |int k=>intro x cs h;exact h
 |str=>intro x cs h;exact h
 |slice s D=>intro x cs h;obtain⟨a,K,j,m,A,E⟩:=h;refine⟨a,K,j,m,A,λJ H=>⟨(E J H).1,λi y C=>?_⟩⟩;have⟨c,L,N⟩:=(E J H).2 i y C;exact⟨c,L.ext e,D N⟩
 |agg s D=>intro x cs h;exact D (show Rel w I s x cs from h)
 |prod a b O Q=>intro x cs h;obtain⟨c,d,j,m,A⟩:=h;exact⟨c,d,j,O m,Q A⟩
 |arr n s D=>intro x cs h;obtain⟨j,m,A⟩:=h;exact⟨j,m,λi y C=>D (A i y C)⟩
 |ptr s D=>
  intro x cs h;cases x with
  |none=>exact h
  |some y=>obtain⟨J,j,m,c,A,E⟩:=h;exact⟨J,j,m,c,A.ext e,D E⟩
 |map k v R V=>intro x cs h;obtain⟨p,hp,r,j,m,A⟩:=h;refine⟨p,hp,r,j,m,λb Y=>?_⟩;have⟨hi,G,B,E,W,X⟩:=A b Y;refine⟨(e.obj b hi).1,G,B,(e.obj b hi).2.trans E,W,λi y en C M=>?_⟩;have⟨⟨c,L,N⟩,⟨d,hd,hs⟩⟩:=X i y en C M;exact⟨⟨c,L,R N⟩,⟨d,hd,V hs⟩⟩
 |inil=>intro x cs h;exact h
 |self=>intro x cs h;exact h
 |opq=>intro x cs h;exact h
 |hV d c _ _=>
  intro x cs h;cases x with
  |none=>exact h
  |some F=>obtain⟨f,vs,j,m,A⟩:=h;exact⟨f,vs,j,m,λw1 I1 Z hm x l ac k1 k2 y C=>A w1 I1 (e.trans Z) hm x l ac k1 k2 y C⟩
 |ialt id t r U T=>
  intro x cs h;cases x with
  |inl y=>obtain⟨v,c,j,m,A⟩:=h;exact⟨v,c,j,m,U A⟩
  |inr z=>exact⟨h.1,T h.2⟩
def Z4.ext{x:t.T}{v:X2}(h:Z4 w I t x v)(e:Ext w I w' I'):Z4 w' I' t x v:=
 let ⟨c,h1,h2⟩:=h;⟨c,h1,h2.ext e⟩
theorem Rel.length:∀{t:Ty} {x:t.T} {cs:KX X2},Rel w I t x cs->cs.length=t.sz:=by
 intro t;induction t with
 |unit=>intro x cs h;rw[show cs=[]from h];rfl
 |bool=>intro x cs h;rw[show cs=[.bool x]from h];rfl
 |int k=>intro x cs h;rw[show cs=_ from h.1];rfl
 |str=>intro x cs h;rw[show cs=_ from h.1];rfl
 |slice s j=>intro x cs h;obtain⟨a,A,e,_⟩:=h;rw[e];rfl
 |agg s j=>intro x cs h;exact j (show Rel w I s x cs from h)
 |prod a b l m=>intro x cs h;obtain⟨c,d,e,B,C⟩:=h;rw[e,AL,l B,m C];rfl
 |arr n s j=>intro x cs h;exact h.2.1
 |ptr s j=>
  intro x cs h;cases x with
  |none=>rw[show cs=_ from h];rfl
  |some y=>obtain⟨J,e,_⟩:=h;rw[e];rfl
 |map k v D H=>intro x cs h;obtain⟨p,K,r,e,_⟩:=h;rw[e];rfl
 |inil=>intro x cs h;rw[show cs=_ from h];rfl
 |self=>intro x cs h;rw[show cs=_ from h];rfl
 |opq=>intro x cs h;obtain⟨v,e,_⟩:=h;rw[e];rfl
 |hV d c _ _=>
  intro x cs h;cases x with
  |none=>rw[show cs=_ from h];rfl
  |some F=>obtain⟨f,L,e,_⟩:=h;rw[e];rfl
 |ialt id t r G E=>
  intro x cs h;cases x with
  |inl y=>obtain⟨v,c,e,_⟩:=h;rw[e];rfl
  |inr z=>exact h.1
end
def zc:Ty->KX X2->X1 (KX X2)
 | .unit,l=>some l
 | .bool,l=>match l with| .bool false::r=>some r|_=>none
 | .int k,l=>match l with| .int k' n::r=>if ON k k'&&n==0 then some r else none|_=>none
 | .str,l=>match l with| .string s::r=>if s.data.toList.length==0 then some r else none|_=>none
 | .slice _,l=>match l with| .slice none 0 0::r=>some r|_=>none
 | .agg t,l=>zc t l
 | .prod a b,l=>match zc a l with|some r=>zc b r|none=>none
 | .arr n e,l=>Nat.rec (motive:=λ_=>KX X2->X1 (KX X2)) some (λ_ ih l=>match zc e l with|some r=>ih r|none=>none) n l
 | .ptr _,l=>match l with| .pointer none::r=>some r|_=>none
 | .map _ _,l=>match l with| .map none::r=>some r|_=>none
 | .inil,l=>match l with| .nilIface::r=>some r|_=>none
 | .self,l=>match l with| .pointer none::r=>some r|_=>none
 | .opq,l=>match l with|v::r=>if v.oneCell'=true then some r else none|_=>none
 | .hV _ _,l=>match l with| .nilFunc::r=>some r|_=>none
 | .ialt _ _ q,l=>if q.isIface=true then(match l with| .nilIface::r=>some r|_=>none)else none
def PZ(t:Ty)(l:KX X2):X5:=match zc t l with
 |some []=>true
 |_=>false
def zv(t:Ty)(v:X2):X5:=match t with
 | .agg t=>match v with| .agg cs=>PZ t cs.toList|_=>false
 | .arr n e=>match v with| .agg cs=>PZ (.arr n e) cs.toList|_=>false
 |t=>match v with| .agg _=>false|v=>PZ t [v]
def A2V(P:Program)(id:Nat):X5:=Nat.blt id P.types.size&&(match P.info? id with
 |some i=>match i.desc with| .named ..=>true|_=>false
 |none=>false)
def TL(P:Program)(t:Ty)(id:Nat):X5:=(match P.info? id with
 |some i=>Nat.beq i.size t.sz&&(Nat.ble i.bytes (24*t.sz)&&(match i.zero with|some v=>zv t v|none=>false))
 |none=>false)&&(!(t.same (.agg GT))||A2V P id)
def W5(P:Program):Ty->(Nat->X5)×(KX Field->Nat->X5)
 | .prod a b=>(λ_=>false,λl off=>match l with
  |f::r=>Nat.beq f.offset off&&((W5 P a).1 f.type&&((W5 P b).2 r (off+a.sz)&&Nat.blt 0 b.fields))
  |[]=>false)
 | .unit=>(λ_=>false,λl _=>match l with|[]=>true|_=>false)
 | .bool=>one .bool λd=>match d with| .bool=>true|_=>false
 | .int k=>one (.int k) λd=>match d with| .int k'=>ON k k'|_=>false
 | .str=>one .str λd=>match d with| .string=>true|_=>false
 | .slice e=>one (.slice e) λd=>match d with| .slice el=>(W5 P e).1 el&&Nat.blt 0 e.sz|_=>false
 | .agg p=>one (.agg p) λd=>match d with| .struct fs=>(W5 P p).2 fs.toList 0&&Nat.blt 0 p.sz|_=>false
 | .arr n e=>one (.arr n e) λd=>match d with| .array m el=>Nat.beq n m&&((W5 P e).1 el&&(Nat.blt 0 e.sz&&Nat.blt 1 n))|_=>false
 | .ptr e=>one (.ptr e) λd=>match d with| .pointer el=>(W5 P e).1 el|_=>false
 | .map k v=>one (.map k v) λd=>match d with| .map a b=>(W5 P k).1 a&&(W5 P v).1 b|_=>false
 | .inil=>one .inil λd=>match d with| .interface _=>true|_=>false
 | .self=>one .self λd=>match d with| .pointer _=>true|_=>false
 | .opq=>one .opq λd=>match d with| .pointer _=>true| .slice _=>true| .map _ _=>true| .func _ _ _=>true|_=>false
 | .hV a b=>one (.hV a b) λd=>match d with| .func _ _ _=>true|_=>false
 | .ialt i t r=>one (.ialt i t r) λd=>match d with| .interface _=>(Ty.isIface (.ialt i t r))|_=>false
 where
 one (t:Ty) (c:TypeDesc->X5):(Nat->X5)×(KX Field->Nat->X5):=
  let base:=λid=>TL P t id&&(match P.underlying id with|some d=>c d|none=>false)
  (base,λl off=>match l with|[f]=>Nat.beq f.offset off&&base f.type|_=>false)
def Lay(P:Program)(t:Ty)(id:Nat):Prop:=(W5 P t).1 id=true
theorem Ty.PD(t:Ty):t.bare.sz=t.sz:=by cases t<;>rfl
def O4(t:Ty)(p:KX X5)(u:Ty):Prop:=∃u',t.sub p=some u'/\u'.bare=u.bare
structure Gh where
 im:Im
 val:Nat->Nat->X1 X2
 ety:Nat->X1 Ty
 box:Nat->X1 (Nat×Ty)
variable [CB]
def BF(w:X4)(I:Im):(d:Ty)->d.T->KX X2->Prop
 | .prod a b,x,l=>∃v r,l=v::r/\Z4 w I a x.1 v/\BF w I b x.2 r
 |t,x,l=>∃v,l=[v]/\Z4 w I t x v
def RetV(w:X4)(I:Im):(c:Ty)->c.T->X2->Prop
 | .prod a b,y,rv=>∃vs:Array X2,rv=.tuple vs/\BF w I (.prod a b) y vs.toList
 |t,y,rv=>Z4 w I t y rv
theorem eU:∀{d:Ty} {x:d.T} {l:KX X2},BF w I d x l<->∃ac,eT d l ac/\Rel w I d x ac:=by
 intro d;induction d with
 |prod a b A m=>
  intro x l;constructor
  .rintro⟨v,r,rfl,⟨c,j,h⟩,s⟩;have⟨ac,y,p⟩:=m.1 s;exact⟨c++ac,⟨v,r,c,ac,rfl,rfl,h.length,j,y⟩,c,ac,rfl,h,p⟩
  .rintro⟨ac,⟨v,r,c,e,rfl,rfl,j,h,s⟩,B,C,y,p,z⟩;obtain⟨rfl,rfl⟩:=List.append_inj y (by rw[j,p.length]);exact⟨v,r,rfl,⟨c,h,p⟩,m.2 ⟨e,s,z⟩⟩
 |_=>
  intro x l;constructor
  .rintro⟨v,rfl,c,j,h⟩;exact⟨c,⟨v,rfl,j⟩,h⟩
  .rintro⟨ac,⟨v,rfl,j⟩,h⟩;exact⟨v,rfl,ac,j,h⟩
theorem A2W:∀{c:Ty} {y:c.T} {l:X2},RetV w I c y l<->∃d,A2U c l d/\Rel w I c y d:=by
 intro c y l;cases c with
 |prod a b=>
  constructor
  .rintro⟨m,rfl,h⟩;have⟨ac,e,j⟩:=eU.1 h;exact⟨ac,⟨m,rfl,e⟩,j⟩
  .rintro⟨d,⟨m,rfl,e⟩,j⟩;exact⟨m,rfl,eU.2 ⟨d,e,j⟩⟩
 |_=>exact Iff.rfl
theorem RetV.one{c:Ty}{y:c.T}{d:X2}(h:∀a b,c≠.prod a b):RetV w I c y d<->Z4 w I c y d:=by cases c<;>first|exact Iff.rfl|grind
def HofD(P:Program)(D:Prop)(w:X4)(I:Im)(d c:Ty)(F:d.T->X1 c.T)(f:Nat)(vs:Array X2):Prop:=
 FJ P f/\∀w' I',Ext w I w' I'->I4 w' I'->∀x (l:KX X2),BF w' I' d x l->∀y,F x=some y->
  Calls P f (l.toArray++vs) w' λe w''=>∃rv I'',e=.returned rv/\Q5 VU w' I' w'' I''/\RetV w'' I'' c y rv/\(D->w'.drawn<=w''.drawn)
def HofD.hV{d c:Ty}{F:d.T->X1 c.T}{vs:Array X2}{D:Prop}(h:HofD CB.P D w I d c F f vs):
 Rel w I (.hV d c) (some F:X1 (d.T→X1 c.T)) [.func (.func f) #[] vs]:=
 ⟨f,vs,rfl,h.1,λw' I' a b x l ac k1 j y e=>(h.2 w' I' a b x l (eU.2 ⟨ac,k1,j⟩) y e).mono λ_ _ ⟨z,I'',m,p,s,_⟩ =>
  let ⟨rc,r1,r2⟩:=A2W.1 s
  ⟨z,I'',rc,m,p,r1,r2⟩⟩
def A2X{d c:Ty}{F:d.T->X1 c.T}(h:Rel w I (.hV d c) (some F:X1 (d.T->X1 c.T)) cs):
 ∃f a,cs=[.func (.func f) #[] a]/\HofD CB.P False w I d c F f a:=by
 obtain⟨f,a,b,e,j⟩:=h;refine⟨f,a,b,e,λw' I' m p x l s y z=>?_⟩;grind[eU,A2W]
def tH:SV->X2->KX X2->Prop
 | .val t _,v,c=>KV t v c
 |_,v,c=>c=[v]
def Fit:SV->Ty->Prop
 | .val u _,t=>u.bare=t.bare
 | .pr a b,t=>∃x y,t.bare=.prod x y/\Fit a x/\Fit b y
 | .obj _ _,t=>t.sz=1
 | .ptr _ _ _,t=>t.sz=1
 | .nilS,t=>t.sz=1
 | .nns _ _,t=>t.sz=1
 | .mns _ _,t=>t.sz=1
 | .fn _ _,t=>t.sz=1
 | .hof _ _ _ _,t=>t.sz=1
 | .slf _,t=>t.sz=1
 |_,_=>False
def CR(P:Program)(w:X4)(G:Gh):SV->KX X2->Prop
 | .undef,_=>True
 | .val t x,cs=>Rel w G.im t x cs
 | .nilS,cs=>cs=[.slice none 0 0]
 | .nilI,cs=>cs=[.nilIface]
 | .nilP,cs=>cs=[.pointer none]
 | .nilM,cs=>cs=[.map none]
 | .nilF,cs=>cs=[.nilFunc]
 | .nns e x,cs=>Rel w G.im (.slice e) x cs/\∃ad len cap,cs=[.slice (some ad) len cap]
 | .mns e x,cs=>Rel w G.im (.slice e) (x.getD []) cs/\∃ad len cap,cs=[.slice ad len cap]/\(x=none->ad=none)
 | .pr a b,cs=>∃c d,cs=c++d/\CR P w G a c/\CR P w G b d
 | .obj k g,cs=>∃v,G.val k g=some v/\v.oneCell'=true/\cs=[v]
 | .ptr k p u,cs=>∃b t o,G.box k=some (b,t)/\t.off p=some o/\O4 t p u/\cs=[.pointer (some ⟨b,o,none⟩)]
 | .ptri k p i q u,cs=>∃b t o n e o',G.box k=some (b,t)/\t.off p=some o/\O4 t p (.arr n e)/\i<n/\e.off q=some o'/\O4 e q u/\
  cs=[.pointer (some ⟨b,o+i*e.sz+o',none⟩)]
 | .elem k g i q u,cs=>∃b o len cap e o',G.val k g=some (.slice (some ⟨b,o,none⟩) len cap)/\G.ety k=some e/\i<len/\e.off q=some o'/\O4 e q u/\
  cs=[.pointer (some ⟨b,o+i*e.sz+o',none⟩)]
 | .ref t x,cs=>∃ad c,cs=[.pointer (some ad)]/\ad.spot=none/\Row w G.im ad.block ad.off t.sz c/\Rel w G.im t x c
 | .lnS n,cs=>∃a cap,cs=[.slice a n cap]/\n<=281474976710656
 | .rf0 t x,cs=>∃b c,cs=[.pointer (some ⟨b,0,none⟩)]/\Row w G.im b 0 t.sz c/\Rel w G.im t x c
 | .fn f caps,cs=>∃vs:Array X2,cs=[.func (.func f) #[] vs]/\CR P w G caps vs.toList
 | .hof nd d c F,cs=>∃f vs,cs=[.func (.func f) #[] vs]/\HofD P (nd=true) w G.im d c F f vs
 | .snil,cs=>cs=[]
 | .scons a b,cs=>∃v r,cs=v::r/\(∃c,tH a v c/\CR P w G a c)/\CR P w G b r
 | .tup l,cs=>∃vs:Array X2,cs=[.tuple vs]/\CR P w G l vs.toList
 | .grd _ _ _,_=>False
 | .bt t c,cs=>∃cs',cs=[.agg cs'.toArray]/\(∃a b,t=.agg (.prod a b)/\Fit c (.prod a b))/\(∀x∈cs',x.oneCell'=true)/\CR P w G c cs'
 | .slf k,cs=>∃b t,G.box k=some (b,t)/\(cs=[.pointer none]\/cs=[.pointer (some ⟨b,0,none⟩)])
def SR(P:Program)(w:X4)(G:Gh)(s:SV)(v:X2):Prop:=∃c,tH s v c/\CR P w G s c
structure PC(w:X4)(G:Gh)(w':X4)(G':Gh):Prop where
 ext:Ext w G.im w' G'.im
 val:∀k g v,G.val k g=some v->G'.val k g=some v
 ety:∀k t,G.ety k=some t->G'.ety k=some t
 box:∀k b,G.box k=some b->G'.box k=some b
def PC.refl(w:X4)(G:Gh):PC w G w G:=⟨Ext.refl _ _,λ_ _ _ h=>h,λ_ _ h=>h,λ_ _ h=>h⟩
theorem PC.trans{G G' G'':Gh}(h:PC w G w' G')(k:PC w' G' w'' G''):PC w G w'' G'':=
 ⟨h.ext.trans k.ext,λa b c d=>k.val _ _ _ (h.val a b c d),λa b c=>k.ety _ _ (h.ety a b c),λa b c=>k.box _ _ (h.box a b c)⟩
section
variable{P:Program}{w w':X4}{G G':Gh}
def CR.mono(e:PC w G w' G'):∀{s:SV} {cs:KX X2},CR P w G s cs->CR P w' G' s cs:=by
 intro s;induction s with
 |undef=>intro cs h;trivial
 |val t x=>intro cs h;exact Rel.ext e.ext (show Rel w G.im t x cs from h)
 |nilS=>intro cs h;exact h
 |nilI=>intro cs h;exact h
 |nilP=>intro cs h;exact h
 |nilM=>intro cs h;exact h
 |nilF=>intro cs h;exact h
 |nns t x=>intro cs h;exact⟨Rel.ext e.ext h.1,h.2⟩
 |mns t x=>intro cs h;exact⟨Rel.ext e.ext h.1,h.2⟩
 |pr a b B C=>intro cs h;obtain⟨c,d,j,m,z⟩:=h;exact⟨c,d,j,B m,C z⟩
 |obj k g=>intro cs h;obtain⟨v,j,m⟩:=h;exact⟨v,e.val _ _ _ j,m⟩
 |ptr k p u=>intro cs h;obtain⟨b,t,o,j,m⟩:=h;exact⟨b,t,o,e.box _ _ j,m⟩
 |ptri k p i q u=>intro cs h;obtain⟨b,t,o,n,el,I,j,m⟩:=h;exact⟨b,t,o,n,el,I,e.box _ _ j,m⟩
 |elem k g i q u=>intro cs h;obtain⟨b,o,l,c,el,I,j,m,z⟩:=h;exact⟨b,o,l,c,el,I,e.val _ _ _ j,e.ety _ _ m,z⟩
 |ref t x=>intro cs h;obtain⟨K,c,j,m,z,A⟩:=h;exact⟨K,c,j,m,z.ext e.ext,A.ext e.ext⟩
 |lnS n=>intro cs h;exact h
 |rf0 t x=>intro cs h;obtain⟨b,c,j,z,A⟩:=h;exact⟨b,c,j,z.ext e.ext,A.ext e.ext⟩
 |fn f J D=>intro cs h;obtain⟨E,j,m⟩:=h;exact⟨E,j,D m⟩
 |hof d c F=>intro cs h;obtain⟨f,E,j,m⟩:=h;exact⟨f,E,j,m.1,λQ I1 L M x l N y O=>m.2 Q I1 (e.ext.trans L) M x l N y O⟩
 |snil=>intro cs h;exact h
 |scons a b B C=>intro cs h;obtain⟨v,r,j,⟨c,m,z⟩,A⟩:=h;exact⟨v,r,j,⟨c,m,B z⟩,C A⟩
 |tup l D=>intro cs h;obtain⟨E,j,m⟩:=h;exact⟨E,j,D m⟩
 |grd _ _ _ _=>intro cs h;exact h
 |bt t c D=>intro cs h;obtain⟨H,j,m,z,A⟩:=h;exact⟨H,j,m,z,D A⟩
 |slf k=>intro cs h;obtain⟨b,t,j,m⟩:=h;exact⟨b,t,e.box _ _ j,m⟩
def SR.mono{v:X2}(h:SR P w G s v)(e:PC w G w' G'):SR P w' G' s v:=let ⟨c,h1,h2⟩:=h;⟨c,h1,h2.mono e⟩
end
structure Fr where
 gv:Nat->Prop
 w0:X4
 i0:Im
 fx:Nat->X1 X2
 dr:X5
variable{fr:Fr}
def Fr.owned(fr:Fr)(b:Nat):Prop:=fr.w0.heap.size<=b\/fr.gv b
def Q9(w:X4)(b:Nat)(cs:Array X2)(el:TypeId):Prop:=∃fz:Nat×Nat,w.heap[b]?=some (.cells cs el fz)/\(fz.2<=fz.1\/cs.size<=fz.1/\CB.P.underlying el=some (.int .u8))
def Q9.of{cs:Array X2}(h:w.heap[b]?=some (.cells cs el (0,0))):Q9 w b cs el:=⟨_,h,.inl (AD _)⟩
def Q9.lt{cs:Array X2}(h:Q9 w b cs el):b<w.heap.size:=let ⟨_,h1,_⟩:=h;(B6.1 h1).1
def Q9.cell{cs:Array X2}(h:Q9 w b cs el)(o:Nat):w.cell? ⟨b,o,none⟩=cs.toList[o]?:=by obtain⟨fz,a,_⟩:=h;simp[World.cell?,a]
theorem Q9.keep{cs:Array X2}(h:Q9 w b cs el)(e:w'.heap[b]?=w.heap[b]?):Q9 w' b cs el:=let ⟨fz,h1,h2⟩:=h;⟨fz,e.trans h1,h2⟩
def RE(fr:Fr)(w:X4)(I:Im)(el:Nat)(t:Ty)(xs:KX t.T)(wr:X5)(v:X2):Prop:=
 (v=.slice none 0 0/\xs=[])\/
 ∃b cap cs,v=.slice (some ⟨b,0,none⟩) xs.length cap/\IZ xs.length cap/\Q9 w b cs el/\cs.size=cap*t.sz/\
  (∀i x,xs[i]?=some x->Rel w I t x ((cs.toList.drop (i*t.sz)).take t.sz))/\fr.owned b/\
  (wr=true->∀o,¬I.cell b o)/\(wr=false->∀o,o<xs.length*t.sz<->I.cell b o)/\¬I.obj b
def A2Y(fr:Fr)(w:X4)(I:Im)(k v:Ty)(es:KX (k.T×v.T))(wr:X5)(cv:X2):Prop:=
 ∃p:KX (k.T×v.T),PE p es/\∃b Z6 clock,cv=.map (some b)/\w.heap[b]?=some (.map Z6 clock)/\(Z6.size=p.length/\Go.MapKept.Stamped Z6 clock)/\
  (∀(i:Nat) (x:k.T×v.T) (e:MapEntry),p[i]?=some x->Z6[i]?=some e->Z4 w I k x.1 e.key/\Z4 w I v x.2 e.val)/\((wr=true->¬I.obj b)/\(wr=false->I.obj b))/\(∀o,¬I.cell b o)/\fr.owned b
def I5:X2->X2
 | .slice (some ad) _ _=>.map (some ad.block)
 |_=>.map none
def MgOK(fr:Fr)(w:X4)(I:Im)(id:Nat)(k t:Ty)(es:KX (k.T×KX t.T))(tk:X1 k.T)(us:KX X2)(cv:X2):Prop:=
 ∃b Z6 clock,cv=.map (some b)/\w.heap[b]?=some (.map Z6 clock)/\(Z6.size=es.length/\Go.MapKept.Stamped Z6 clock)/\us.length=es.length/\
  (∀ (i:Nat) (x:k.T×KX t.T) (e:MapEntry) (u:X2),es[i]? = some x->Z6[i]? = some e->us[i]? = some u ->
   Z4 w I k x.1 e.key/\((tk=some x.1/\u=.map none/\Z4 w I (.slice t) x.2 e.val)\/(RE fr w I id t x.2 false e.val/\u=I5 e.val)))/\
  (∀(i j c:Nat),us[i]?=some (.map (some c))->us[j]?=some (.map (some c))->i=j)/\(es.map (·.1)).Nodup/\¬I.obj b/\(∀o,¬I.cell b o)/\fr.owned b
def VV:X1 (KX Nat)->Nat->X1 (KX Nat)
 |some (j::p),i=>bif Nat.beq j i then some p else none
 |_,_=>none
def DV(ow:Nat->Prop)(w:X4)(I:Im)(t:Ty):(ids:KX Nat)->(E5 ids t).T->X1 (KX Nat)->KX X2->KX Nat->Prop
 |[],x,_,cs,bs=>bs=[]/\Rel w I t x cs
 |id::r,xs,h,cs,bs=>∃v,cs=[v]/\v.oneCell'=true/\
  ((h=some []/\bs=[]/\∃ a cap,v=.slice a (show KX (E5 r t).T from xs).length cap/\(show KX (E5 r t).T from xs).length<=281474976710656) \/
   (h≠some []/\v=.slice none 0 0/\(show KX (E5 r t).T from xs)=[]/\bs=[])\/
   (h≠some []/\∃ b o cap cells bss,v=.slice (some ⟨b,o,none⟩) (show KX (E5 r t).T from xs).length cap/\IZ (show KX (E5 r t).T from xs).length cap/\Q9 w b cells id /\
    o+cap*(E5 r t).sz<=cells.size/\ow b/\(∀c,¬I.cell b c)/\¬I.obj b/\List.length bss=(show KX (E5 r t).T from xs).length/\bs=b::List.flatten bss/\
    ∀i x,(show KX (E5 r t).T from xs)[i]?=some x->DV ow w I t r x (VV h i) ((cells.toList.drop (o+i*(E5 r t).sz)).take (E5 r t).sz) (bss.getD i [])))
def IT(b:Nat):X2:=.map (some b)
def tI(w:X4)(G:Gh)(gk:Nat)(h:X1 (KX Nat))(v:X2):Prop:=match h with
 |some [i]=>∃hv b o len cap,G.val (gk-2) 0=some hv/\v=.slice (some ⟨b,o,none⟩) len cap/\i<len/\w.cell? ⟨b,o+i,none⟩=some hv
 |_=>True
def RA(fr:Fr)(w:X4)(G:Gh)(k:Nat):(ids:KX Nat)->(t:Ty)->(E5 ids t).T->Nat->X1 (KX Nat)->X5->Prop
 |[],_,_,_,_,_=>False
 |id::r,t,x,gk,h,true=>h≠some []/\G.ety k=some (E5 r t)/\∃v us bs,G.val k 0=some v/\G.val gk 0=some (.tuple us)/\us.toList=List.map IT bs/\bs.Nodup/\DV fr.owned w G.im t (id::r) x h [v] bs/\tI w G gk h v
 |id::r,t,x,_,_,false=>∃v,G.val k 0=some v/\Rel w G.im (E5 (id::r) t) x [v]
def ItAt(w:X4)(I:Im)(a b:Ty)(es:KX (a.T×b.T))(o:Go.Obj):Prop:=
 ∃m,Z4 w I (.map a b) es (.map m)/\((m=none/\o=.mapIter none 0 #[] 0)\/∃mb Z6 clock,m=some mb/\o=.mapIter (some mb) clock #[] clock/\w.heap[mb]?=some (.map Z6 clock))
theorem ItAt.lt{a b:Ty}{d:KX (a.T×b.T)}{o:Go.Obj}(h:ItAt w I a b d o):∀cells el,o≠.cells cells el (0,0):=by intro c el e;obtain⟨m,_,⟨_,h⟩|⟨_,_,_,_,h,_⟩⟩:=h<;>rw[h]at e<;>cases e
def V1(P:Program)(fr:Fr)(w:X4)(G:Gh)(k:Nat):Obj->Prop
 | .box t c wr=>∃b cs el,G.box k=some (b,t)/\w.heap[b]?=some (.cells cs el (0,0))/\cs.size=t.sz/\Fit c t/\CR P w G c cs.toList/\((wr=true->∀o,¬G.im.cell b o)/\(wr=false->∀o,o<t.sz->G.im.cell b o))/\¬G.im.obj b/\fr.owned b/\(t=GT->Lay P (.agg GT) el)
 | .sl el t xs g wr=>G.ety k=some t/\∃v,G.val k g=some v/\RE fr w G.im el t xs wr v
 | .mp a b es wr=>∃v,G.val k 0=some v/\A2Y fr w G.im a b es wr v
 | .mg id a t es tk gk=>∃v us,G.val k 0=some v/\G.val gk 0=some (.tuple us)/\MgOK fr w G.im id a t es tk us.toList v
 | .dp ids t x gk h wr=>RA fr w G k ids t x gk h wr
 | .it a b es=>∃r o,G.val k 0=some (.pointer (some ⟨r,0,none⟩))/\w.heap[r]?=some o/\ItAt w G.im a b es o/\¬G.im.obj r/\(∀j,¬G.im.cell r j)/\fr.owned r
def Bk(G:Gh)(k:Nat)(o:Obj)(b:Nat):Prop:=match o with
 | .box _ _ _=>(G.box k).map (·.1)=some b
 | .sl _ _ _ g _=>(match G.val k g with
  |some (.slice (some ad) _ _)=>some ad.block
  |_=>none)=some b
 | .mp _ _ _ _=>(match G.val k 0 with
  |some (.map (some b))=>some b
  |_=>none)=some b
 | .mg _ _ _ _ _ gk=>G.val k 0=some (.map (some b))\/∃us,G.val gk 0=some (.tuple us)/\Value.map (some b)∈us.toList
 | .dp _ _ _ gk _ wr=>wr=true/\∃us,G.val gk 0=some (.tuple us)/\IT b∈us.toList
 | .it _ _ _=>(match G.val k 0 with
  |some (.pointer (some ad))=>some ad.block
  |_=>none)=some b
theorem RA.shape{G:Gh}{r:KX Nat}{xs:KX (E5 r t).T}{x:Nat}{wr:X5}(hd:RA fr w G k (id::r) t xs x h wr):
 ∃a d,G.val k 0=some (.slice a xs.length d)/\xs.length<=281474976710656:=by
 cases wr with
 |true=>
  obtain⟨h0,_,v,y,bs,j,_,_,_,⟨v',l,_,e⟩,_⟩:=hd;have m:v=v':=(AB.1 l);subst m;rcases e with⟨e,_⟩|⟨_,rfl,p,_⟩|⟨_,b,o,d,cells,s,rfl,p,_⟩
  .grind
  .grind
  .exact⟨_,d,j,p.2⟩
 |false=>obtain⟨v,j,a,d,l,e,_⟩:=hd;have m:v=_:=(AB.1 l);subst m;exact⟨a,d,j,e.2⟩
theorem RA.rel{G:Gh}{ids:KX Nat}{x:(E5 ids t).T}{a:Nat}(hd:RA fr w G k ids t x a h false):
 ∃v,G.val k 0=some v/\Rel w G.im (E5 ids t) x [v]:=by
 cases ids with
 |nil=>exact absurd hd id
 |cons id r=>exact hd
def holds(a:Act)(tk:KX (Nat×X5)):Prop:=∀t∈tk,a.tmps.getD t.1 undef=.bool t.2
def PJ(P:Program)(w:X4)(G:Gh)(a:Act):SV->X2->Prop
 | .grd tk g s,v=>(holds a tk->g=true/\SR P w G s v)/\(¬holds a tk->v=undef)
 |s,v=>SR P w G s v
section
variable{P:Program}{w:X4}{G:Gh}{I:Im}
theorem Rel.cast{u:Ty}{x:t.T}{y:u.T}(h:Ty.cast? t u x=some y)(a:Rel w I t x cs):Rel w I u y cs:=by grind[Ty.cast?_some]
def Z4.cast{u:Ty}{x:t.T}{y:u.T}{v:X2}(h:Ty.cast? t u x=some y)(a:Z4 w I t x v):Z4 w I u y v:=by grind[Ty.cast?_some]
theorem Rel.rL:∀{t:Ty},t.isIface=true->Rel w I t t.Q8 [.nilIface]:=by
 intro t;induction t with
 |inil=>intro _;rfl
 |ialt i a r d b=>intro h;exact⟨rfl,b h⟩
 |_=>intro h;exact absurd h (by simp[Ty.isIface])
def AFt{v:X2}(h:t.isIface=true):KV t v [v]:=by cases t<;>first|rfl|(simp[Ty.isIface]at h)
theorem KW{x:t.T}{v:X2}(a:s.as t=some x)(L:SR P w G s v):Z4 w G.im t x v:=by
 obtain⟨c,j,l⟩:=L;cases s with
 |val u y=>exact Z4.cast a ⟨c,j,l⟩
 |nilS=>
  cases t with
  |slice e=>have m:x=([]:KX e.T):=(A2 a).symm;subst m;refine⟨c,j,?_⟩;rw[show c=_ from l];exact⟨none,0,rfl,⟨AD _,AT _⟩,λ_=>⟨rfl,rfl⟩,λD h=>om⟩
  |_=>simp[SV.as]at a
 |nilP=>
  cases t with
  |ptr e=>have m:x=(none:X1 e.T):=(A2 a).symm;subst m;exact⟨c,j,l⟩
  |_=>simp[SV.as]at a
 |nilM=>
  cases t with
  |map k v=>have m:x=([]:KX (k.T×v.T)):=(A2 a).symm;subst m;refine⟨c,j,[],⟨.refl _,AW⟩,none,l,λ_=>rfl,λb h=>om⟩
  |_=>simp[SV.as]at a
 |nilI=>
  simp only[SV.as]at a;split at a
  .rename_i hi;simp only[AJ]at a;subst a;have A:c=[v]:=j;have p:c=[.nilIface]:=l;rw[A]at p;injection p with B _;subst B;exact⟨_,AFt hi,Rel.rL hi⟩
  .cases a
 |ref u y=>
  cases t with
  |ptr e=>
   simp only[SV.as]at a;cases C:Ty.cast? u e y with
   |none=>rw[C]at a;cases a
   |some z=>rw[C]at a;have m:x=(some z:X1 e.T):=(A2 a).symm;subst m;obtain⟨D,d,B,H,I,J⟩:=l;obtain⟨E,K⟩:=Ty.cast?_some C;subst E;subst K;exact⟨c,j,D,B,H,d,I,J⟩
  |_=>simp[SV.as]at a
 |nns e y=>exact Z4.cast a ⟨c,j,l.1⟩
 |mns e y=>exact Z4.cast a ⟨c,j,l.1⟩
 |_=>simp[SV.as]at a
theorem VW{el:Nat}{xs:KX t.T}{v:X2}(h:RE fr w I el t xs false v):Rel w I (.slice t) xs [v]:=by
 rcases h with⟨rfl,rfl⟩|⟨b,a,cs,rfl,p,s,B,l,_,_,y,_⟩
 .exact⟨none,0,rfl,⟨AD _,AT _⟩,λ_=>⟨rfl,rfl⟩,λm h=>om⟩
 .refine⟨some ⟨b,0,none⟩,a,rfl,p,(λh=>om),λm d=>?_⟩;cases d;refine⟨λ_=>rfl,λi x e=>⟨_,⟨?_,λj A=>?_⟩,l i x e⟩⟩
  .exact(l i x e).length
  .have hi:i<xs.length:=(A3.1 e).1;have z:i*t.sz+j<xs.length*t.sz:=by have:(i+1)*t.sz<=xs.length*t.sz:=AN _ hi;rw[C6]at this;omega
   refine⟨(y rfl _).1 (by simpa using z),?_⟩;rw[B0,if_pos A,B5,<-s.cell];simp
theorem AFu{a b:Ty}{m:KX (a.T×b.T)}{v:X2}(h:A2Y fr w I a b m false v):Rel w I (.map a b) m [v]:=by obtain⟨p,D,s,j,d,rfl,y,z,A,B,_⟩:=h;refine⟨p,D,some s,rfl,(λh=>om),λG l=>?_⟩;cases l;exact⟨B.2 rfl,j,d,y,z,λi x e E C=>A i x e E C⟩
theorem A2Z(m:∀k o,σ k=some o->V1 P fr w G k o){x:t.T}{v:X2}
 (j:RQ σ k g t=some x)(C:G.val k g=some v):Rel w G.im t x [v]:=by
 unfold RQ at j;split at j
 .rename_i id e E z wr hk;split at j
  .rename_i h;simp only[A7,BM]at h;have d:=A5 h.1;subst d;have l:wr=false:=h.2;subst l;have⟨_,v',p,s⟩:=m k _ hk;grind[Rel.cast,VW]
  .cases j
 .rename_i a b y wr hk;split at j
  .rename_i h;simp only[A7,BM]at h;have d:=A5 h.1;subst d;have l:wr=false:=h.2;subst l;have⟨v',p,s⟩:=m k _ hk;grind[Rel.cast,AFu]
  .cases j
 .rename_i id r e D A B wr hk;split at j
  .rename_i h;simp only[A7,BM]at h;have d:=A5 h.1;subst d;have l:wr=false:=h.2;subst l;have⟨v',p,s⟩:=m k _ hk;grind[Rel.cast]
  .cases j
 .cases j
theorem A2_{a b:Ty}{d:KX (a.T×b.T)}{u:Ty}{y:u.T}{v:X2}(h:Ty.cast? (.map a b) u d=some y):KV u v [v]:=by obtain⟨e,_⟩:=Ty.cast?_some h;subst e;rfl
theorem A2a{xs:KX t.T}{u:Ty}{y:u.T}{v:X2}(h:Ty.cast? (.slice t) u xs=some y):KV u v [v]:=by obtain⟨e,_⟩:=Ty.cast?_some h;subst e;rfl
def AFv{x:t.T}{v:X2}(h:RQ σ k g t=some x):KV t v [v]:=by grind[RQ,A2a,A2_,hk,E5]
def A2b(h:∀k g,s≠.obj k g):s.asV σ t=s.as t:=by cases s<;>first|rfl|grind
def KD(p:∀k o,σ k=some o->V1 P fr w G k o){x:t.T}{v:X2}
 (d:s.asV σ t=some x)(j:SR P w G s v):Z4 w G.im t x v:=by
 cases s with
 |obj k g=>obtain⟨c,l,v',m,_,e⟩:=j;have b:c=[v]:=l;rw[b]at e;injection e with h4 _;subst h4;have a:RQ σ k g t=some x:=d;exact⟨_,AFv a,A2Z p a m⟩
 |_=>rw[A2b (by intro k g h;cases h)]at d;exact KW d j
def A2c{x:t.T}(h:s.as t=some x)(b:CR P w G s cs):Rel w G.im t x cs:=by
 cases s with
 |val u y=>exact Rel.cast h b
 |nilS=>
  have l:cs=[.slice none 0 0]:=b;have⟨c,j,a⟩:=KW (P:=P) (w:=w) (G:=G) h (v:=.slice none 0 0) ⟨_,rfl,rfl⟩;cases t with
  |slice e=>subst l;rw[show c=[_]from j]at a;exact a
  |_=>simp[SV.as]at h
 |nilP=>
  have l:cs=[.pointer none]:=b;have⟨c,j,a⟩:=KW (P:=P) (w:=w) (G:=G) h (v:=.pointer none) ⟨_,rfl,rfl⟩;cases t with
  |ptr e=>subst l;rw[show c=[_]from j]at a;exact a
  |_=>simp[SV.as]at h
 |nilM=>
  have l:cs=[.map none]:=b;have⟨c,j,a⟩:=KW (P:=P) (w:=w) (G:=G) h (v:=.map none) ⟨_,rfl,rfl⟩;cases t with
  |map k v=>subst l;rw[show c=[_]from j]at a;exact a
  |_=>simp[SV.as]at h
 |nilI=>have l:cs=[.nilIface]:=b;grind[SV.as,Option.some.injEq,Rel.rL]
 |ref u y=>
  obtain⟨m,d,p,z,A,B⟩:=b;have⟨c,j,a⟩:=KW (P:=P) (w:=w) (G:=G) h (v:=.pointer (some m)) ⟨_,rfl,m,d,rfl,z,A,B⟩;cases t with
  |ptr e=>subst p;rw[show c=[_]from j]at a;exact a
  |_=>simp[SV.as]at h
 |nns e y=>exact Rel.cast h b.1
 |mns e y=>exact Rel.cast h b.1
 |_=>simp[SV.as]at h
def AFw(j:∀k o,σ k=some o->V1 P fr w G k o){x:t.T}
 (a:s.asV σ t=some x)(b:CR P w G s cs):Rel w G.im t x cs:=by
 cases s with
 |obj k g=>obtain⟨v,d,_,e⟩:=b;rw[e];exact A2Z j a d
 |_=>rw[A2b (by intro k g h;cases h)]at a;exact A2c a b
def VX{u:Ty}{y:u.T}{x:p.T}(h:NZ u p y=some x)(a:Rel w I u y cs):Rel w I p x cs:=by
 cases u with
 |agg q=>exact Rel.cast (t:=q) h a
 |_=>exact Rel.cast h a
def AFx(h:∀u x,s≠.val u x):s.asL σ t=s.asV σ t:=by cases s<;>first|rfl|grind
def AFy(d:∀k o,σ k=some o->V1 P fr w G k o){x:t.T}
 (a:s.asL σ t=some x)(b:CR P w G s cs):Rel w G.im t x cs:=by
 cases s with
 |val u y=>exact VX (p:=t) a b
 |_=>rw[AFx (by intro k g h;cases h)]at a;exact AFw d a b
def eV{u:Ty}{y:u.T}{x:t.T}(h:OO u t y=some x)(a:Rel w I u y cs):Rel w I t x cs:=by
 unfold OO at h;split at h
 .rename_i p;split at h
  .rename_i d b;cases h;exact Rel.cast b a
  .exact show Rel w I p x cs from Rel.cast h a
 .exact VX h a
def YY(B:∀k o,σ k=some o->V1 P fr w G k o):∀{t:Ty} {s:SV} {x:t.T} {cs:KX X2},
 s.asC σ t=some x->CR P w G s cs->Rel w G.im t x cs:=by
 intro t;induction t with
 |prod a b j l=>
  intro s x cs h e;simp only[SV.asC]at h;split at h
  .split at h
   .rename_i p q C D;have E:=A2 h;subst E;obtain⟨c,d,m,z,A⟩:=e;exact⟨c,d,m,j C z,l D A⟩
   .cases h
  .exact VX (p:=.prod a b) h e
  .exact A2c h e
 |agg p H=>
  intro s x cs h e;simp only[SV.asC]at h;show Rel w G.im p x cs;cases s with
  |val u y=>exact VX (p:=p) h e
  |_=>exact H h e
 |_=>intro s x cs h e;exact AFy B h e
theorem Fit.len:∀{c:SV} {t:Ty} {cs:KX X2},Fit c t->CR P w G c cs->cs.length=t.sz:=by
 intro c;induction c with
 |val u y=>intro t cs j l;have s:u.bare=t.bare:=j;rw[Rel.length (show Rel w G.im u y cs from l),<-Ty.PD,s,Ty.PD]
 |pr a b z A=>intro t cs j l;obtain⟨x,y,s,C,D⟩:=j;obtain⟨c,d,E,H,I⟩:=l;rw[E,AL,z C H,A D I,<-Ty.PD t,s];rfl
 |obj k g=>intro t cs j l;obtain⟨v,_,_,h⟩:=l;rw[h];exact(show t.sz=1 from j).symm
 |ptr k p u=>intro t cs j l;obtain⟨b,J,o,_,_,_,h⟩:=l;rw[h];exact(show t.sz=1 from j).symm
 |nilS=>intro t cs j l;rw[show cs=_ from l];exact(show t.sz=1 from j).symm
 |slf k=>intro t cs j l;obtain⟨b,J,_,h⟩:=l;rcases h with h|h<;>(rw[h];exact(show t.sz=1 from j).symm)
 |fn f c=>intro t cs j l;obtain⟨K,h,_⟩:=l;rw[h];exact(show t.sz=1 from j).symm
 |hof d c F=>intro t cs j l;obtain⟨f,K,h,_⟩:=l;rw[h];exact(show t.sz=1 from j).symm
 |nns e x=>intro t cs j l;obtain⟨_,B,n,m,h⟩:=l;rw[h];exact(show t.sz=1 from j).symm
 |mns e x=>intro t cs j l;obtain⟨_,B,n,m,h,_⟩:=l;rw[h];exact(show t.sz=1 from j).symm
 |_=>intro t cs j;exact absurd j (by simp[Fit])
theorem Ty.s9(t:Ty)(i:X5)(r:KX X5):t.off (i::r)=t.bare.off (i::r):=by cases t<;>rfl
theorem Ty.l9(t:Ty)(i:X5)(r:KX X5):t.sub (i::r)=t.bare.sub (i::r):=by cases t<;>rfl
def tJ{c x y:SV}(m:Fit c t)(p:CR P w G c cs)(h:c.RC=some (x,y)):
 ∃tx ty c1 c2,t.bare=.prod tx ty/\Fit x tx/\Fit y ty/\cs=c1++c2/\CR P w G x c1/\CR P w G y c2/\c1.length=tx.sz/\c2.length=ty.sz:=by
 cases c with
 |pr a b=>simp only[SV.RC,AJ,D9]at h;obtain⟨rfl,rfl⟩:=h;obtain⟨u,v,B,s,A⟩:=m;obtain⟨c,d,l,e,j⟩:=p;exact⟨u,v,c,d,B,s,A,l,e,j,s.len e,A.len j⟩
 |val u z=>
  cases u with
  |prod a b=>simp only[SV.RC,AJ,D9]at h;obtain⟨rfl,rfl⟩:=h;obtain⟨c,d,l,e,j⟩:=p;exact⟨a,b,c,d,(show(Ty.prod a b).bare=t.bare from m).symm,rfl,rfl,l,e,j,e.length,j.length⟩
  |agg q=>
   cases q with
   |prod a b=>simp only[SV.RC,AJ,D9]at h;obtain⟨rfl,rfl⟩:=h;have⟨c,d,l,e,j⟩:=(show Rel w G.im (.prod a b) z cs from p);exact⟨a,b,c,d,(show(Ty.agg (.prod a b)).bare=t.bare from m).symm,rfl,rfl,l,e,j,e.length,j.length⟩
   |_=>simp[SV.RC]at h
  |_=>simp[SV.RC]at h
 |_=>simp[SV.RC]at h
def tK(h:o+n<=c1.length):((c1++c2).drop o).take n=(c1.drop o).take n:=by rw[List.drop_append_of_le_length oa,List.take_append_of_le_length ot]
theorem eW:((c1++c2).drop (c1.length+o)).take n=(c2.drop o).take n:=by simp
def YZ:∀{p:KX X5} {c s:SV} {t:Ty} {cs:KX X2},Fit c t->CR P w G c cs->c.l6 p=some s->
 ∃o u,t.off p=some o/\t.sub p=some u/\Fit s u/\o+u.sz<=t.sz/\CR P w G s ((cs.drop o).take u.sz):=by
 intro p;induction p with
 |nil=>intro c s t cs b d h;simp only[SV.l6,AJ]at h;subst h;refine⟨0,t,by cases t<;>rfl,by cases t<;>rfl,b,oa,?_⟩;rw[DA,CV (by rw[b.len d];omega)];exact d
 |cons i r m=>
  intro c s t cs b d h;simp only[SV.l6]at h;cases l:c.RC with
  |none=>grind
  |some I=>
   obtain⟨x,y⟩:=I;rw[l]at h;have⟨tx,ty,c1,c2,a,z,A,J,B,C,K,L⟩:=tJ b d l;have D:t.sz=tx.sz+ty.sz:=by rw[<-Ty.PD,a];rfl
   cases i with
   |false=>have⟨o,u,k1,e,j,E,H⟩:=m z B h;refine⟨o,u,by rw[Ty.s9,a];exact k1,by rw[Ty.l9,a];exact e,j,oa,?_⟩;grind
   |true=>have⟨o,u,k1,e,j,E,H⟩:=m A C h;refine⟨tx.sz+o,u,by grind[Ty.s9,Ty.off],by rw[Ty.l9,a];exact e,j,oa,?_⟩;grind[eW]
def F3(cs:KX X2)(o:Nat)(ds:KX X2):KX X2:=cs.take o++(ds++cs.drop (o+ds.length))
theorem A2d(h:o+ds.length<=c1.length):F3 (c1++c2) o ds=F3 c1 o ds++c2:=by unfold F3;grind
theorem A2e:F3 (c1++c2) (c1.length+o) ds=c1++F3 c2 o ds:=by simp_all[F3,List.take_append,CV,List.drop_append,DK,CW]
theorem MI(h:o+ds.length<=cs.length):(F3 cs o ds).length=cs.length:=by grind[F3]
def tL:∀{p:KX X5} {c c' s:SV} {t u:Ty} {cs ds:KX X2} {o:Nat},Fit c t->CR P w G c cs->c.setAt p s=some c'->
 t.off p=some o->t.sub p=some u->Fit s u->CR P w G s ds->
 Fit c' t/\o+u.sz<=t.sz/\CR P w G c' (F3 cs o ds):=by
 intro p;induction p with
 |nil=>
  intro c c' s t u cs ds o m z a e l h b;simp only[SV.setAt,AJ]at a;subst a;have A:t=u:=by cases t<;>exact A2 l
  subst A;have d:0=o:=by cases t<;>exact A2 e
  subst d;refine⟨h,oa,?_⟩;have:F3 cs 0 ds=ds:=by unfold F3;rw[DK (by rw[m.len z,h.len b];omega)];simp
  grind
 |cons i r L=>
  intro c c' s t u cs ds o m z a e l h b;simp only[SV.setAt]at a;cases I:c.RC with
  |none=>grind
  |some T=>
   obtain⟨x,y⟩:=T;rw[I]at a;have⟨tx,ty,c1,c2,j,C,D,M,E,H,N,U⟩:=tJ m z I;have Q:t.sz=tx.sz+ty.sz:=by rw[<-Ty.PD,j];rfl
   rw[Ty.s9,j]at e;rw[Ty.l9,j]at l;have O:=h.len b;cases i with
   |false=>
    simp only[A8]at a;cases J:x.setAt r s with
    |none=>grind
    |some W=>rw[J]at a;simp only[BG,AJ]at a;subst a;have⟨k1,R,B⟩:=L C E J e l h b;refine⟨⟨tx,ty,j,k1,D⟩,oa,_,_,?_,B,H⟩;grind[A2d]
   |true=>
    simp only[A4]at a;cases K:y.setAt r s with
    |none=>grind
    |some X=>
     rw[K]at a;simp only[BG,AJ]at a;subst a;simp only[Ty.off,A4]at e;cases d:ty.off r with
     |none=>grind
     |some V=>rw[d]at e;simp only[BG,AJ]at e;subst e;have⟨k1,R,B⟩:=L D H K d l h b;refine⟨⟨tx,ty,j,C,k1⟩,oa,_,_,?_,E,B⟩;rw[M,<-N,A2e]
def eX:∀{t:Ty} {p:KX X5} {x:t.T} {u:Ty} {y:u.T} {cs:KX X2},Rel w I t x cs->Ty.at t p x=some ⟨u,y⟩->
 ∃o,t.off p=some o/\t.sub p=some u/\o+u.sz<=t.sz/\Rel w I u y ((cs.drop o).take u.sz):=by
 intro t
 have base:∀{t:Ty} {x:t.T} {u:Ty} {y:u.T} {cs:KX X2},Rel w I t x cs->(some ⟨t,x⟩:X1 ((u:Ty)×u.T))=some ⟨u,y⟩->
  ∃o,t.off []=some o/\t.sub []=some u/\o+u.sz<=t.sz/\Rel w I u y ((cs.drop o).take u.sz):=by
  intro t x u y cs d h;cases h;refine⟨0,by cases t<;>rfl,by cases t<;>rfl,oa,?_⟩;rw[DA,CV (by rw[d.length];omega)];exact d
 have step:∀ {a b:Ty} (e:∀ {p:KX X5} {x:a.T} {u:Ty} {y:u.T} {cs:KX X2},Rel w I a x cs->Ty.at a p x=some ⟨u,y⟩ ->
  ∃o,a.off p=some o/\a.sub p=some u/\o+u.sz<=a.sz/\Rel w I u y ((cs.drop o).take u.sz))
  (j:∀ {p:KX X5} {x:b.T} {u:Ty} {y:u.T} {cs:KX X2},Rel w I b x cs->Ty.at b p x=some ⟨u,y⟩ ->
   ∃o,b.off p=some o/\b.sub p=some u/\o+u.sz<=b.sz/\Rel w I u y ((cs.drop o).take u.sz))
  {i:X5} {r:KX X5} {x:a.T×b.T} {u:Ty} {y:u.T} {cs:KX X2},Rel w I (.prod a b) x cs->
  (bif i then Ty.at b r x.2 else Ty.at a r x.1)=some ⟨u,y⟩->
  ∃o,(Ty.prod a b).off (i::r)=some o/\(Ty.prod a b).sub (i::r)=some u/\o+u.sz<=(Ty.prod a b).sz/\Rel w I u y ((cs.drop o).take u.sz):=by
  intro a b e j i r x u y cs d h;obtain⟨c1,c2,A,s,C⟩:=d;have D:(Ty.prod a b).sz=a.sz+b.sz:=rfl;cases i with
  |false=>have⟨o,k1,l,z,m⟩:=e s h;refine⟨o,k1,l,oa,?_⟩;rw[A,tK (by rw[s.length];omega)];exact m
  |true=>have⟨o,k1,l,z,m⟩:=j C h;refine⟨a.sz+o,by simp[Ty.off,k1],l,oa,?_⟩;rw[A,<-s.length,eW];exact m
 induction t with
 |prod a b e j=>
  intro p x u y cs d h;cases p with
  |nil=>exact base d h
  |cons i r=>exact step e j d h
 |agg q E=>
  intro p x u y cs d h;cases p with
  |nil=>exact base d h
  |cons i r=>
   cases q with
   |prod a b=>have B:Ty.at (.prod a b) (i::r) x=some ⟨u,y⟩:=h;have⟨o,k1,l,z,m⟩:=E (p:=i::r) (show Rel w I (.prod a b) x cs from d) B;exact⟨o,k1,l,z,m⟩
   |_=>simp[Ty.at]at h
 |_=>
  intro p x u y cs d h;cases p with
  |nil=>exact base d h
  |cons i r=>simp[Ty.at]at h
def eY:∀{t:Ty} {p:KX X5} {x z:t.T} {u:Ty} {y:u.T} {cs ds:KX X2} {o:Nat},Rel w I t x cs->Ty.put t p x u y=some z->
 t.off p=some o->Rel w I u y ds->t.sub p=some u/\o+u.sz<=t.sz/\Rel w I t z (F3 cs o ds):=by
 intro t
 have base:∀{t:Ty} {x z:t.T} {u:Ty} {y:u.T} {cs ds:KX X2} {o:Nat},Rel w I t x cs->Ty.cast? u t y=some z->t.off []=some o->Rel w I u y ds->
  t.sub []=some u/\o+u.sz<=t.sz/\Rel w I t z (F3 cs o ds):=by
  intro t x z u y cs ds o j h d hd;have l:0=o:=by cases t<;>exact A2 d
  subst l;have C:=Rel.cast h hd;obtain⟨e,N⟩:=Ty.cast?_some h;subst e;refine⟨by cases u<;>rfl,oa,?_⟩
  have:F3 cs 0 ds=ds:=by unfold F3;rw[DK (by rw[j.length,hd.length];omega)];simp
  rw[this];exact C
 have step:∀ {a b:Ty} (m:∀ {p:KX X5} {x z:a.T} {u:Ty} {y:u.T} {cs ds:KX X2} {o:Nat},Rel w I a x cs->Ty.put a p x u y=some z ->
  a.off p=some o->Rel w I u y ds->a.sub p=some u/\o+u.sz<=a.sz/\Rel w I a z (F3 cs o ds))
  (s:∀ {p:KX X5} {x z:b.T} {u:Ty} {y:u.T} {cs ds:KX X2} {o:Nat},Rel w I b x cs->Ty.put b p x u y=some z ->
   b.off p=some o->Rel w I u y ds->b.sub p=some u/\o+u.sz<=b.sz/\Rel w I b z (F3 cs o ds))
  {i:X5} {r:KX X5} {x z:a.T×b.T} {u:Ty} {y:u.T} {cs ds:KX X2} {o:Nat},Rel w I (.prod a b) x cs->
  (bif i then(Ty.put b r x.2 u y).map (λz=>(x.1,z))else(Ty.put a r x.1 u y).map (λz=>(z,x.2)))=some z->
  (Ty.prod a b).off (i::r)=some o->Rel w I u y ds->
  (Ty.prod a b).sub (i::r)=some u/\o+u.sz<=(Ty.prod a b).sz/\Rel w I (.prod a b) z (F3 cs o ds):=by
  intro a b m s i r x z u y cs ds o j h d hd;obtain⟨c1,c2,E,B,G⟩:=j;have K:(Ty.prod a b).sz=a.sz+b.sz:=rfl;have J:=hd.length;cases i with
  |false=>
   simp only[A8]at h;cases A:Ty.put a r x.1 u y with
   |none=>grind
   |some q=>rw[A]at h;simp only[BG,AJ]at h;subst h;have⟨k1,M,D⟩:=m B A d hd;refine⟨k1,oa,_,_,?_,D,G⟩;rw[E,A2d (by rw[B.length];omega)]
  |true=>
   simp only[A4]at h;cases A:Ty.put b r x.2 u y with
   |none=>grind
   |some q=>
    rw[A]at h;simp only[BG,AJ]at h;subst h;simp only[Ty.off,A4]at d;cases l:b.off r with
    |none=>grind
    |some O=>rw[l]at d;simp only[BG,AJ]at d;subst d;have⟨k1,M,D⟩:=s G A l hd;refine⟨k1,oa,_,_,?_,B,D⟩;rw[E,<-B.length,A2e]
 induction t with
 |prod a b m s=>
  intro p x z u y cs ds o j h d hd;cases p with
  |nil=>exact base j h d hd
  |cons i r=>exact step m s j h d hd
 |agg q L=>
  intro p x z u y cs ds o j h d hd;cases p with
  |nil=>exact base j h d hd
  |cons i r=>
   cases q with
   |prod a b=>have H:Ty.put (.prod a b) (i::r) x u y=some z:=h;exact L (p:=i::r) (show Rel w I (.prod a b) x cs from j) H d hd
   |_=>simp[Ty.put]at h
 |_=>
  intro p x z u y cs ds o j h d hd;cases p with
  |nil=>exact base j h d hd
  |cons i r=>simp[Ty.put]at h
end
section
variable{P:Program}{w:X4}{I:Im}
def Y_(k:IntKind):F_ k 0:=by cases k<;>exact⟨oi,oi⟩
def A2f:∀{t:Ty} {l r:KX X2},zc t l=some r->∃c,l=c++r/\Rel w I t t.Q8 c:=by
 intro t;induction t with
 |unit=>intro l r h;exact⟨[],by simpa[zc]using h,rfl⟩
 |bool=>
  intro l r h;simp only[zc]at h;split at h
  .cases h;exact⟨[_],rfl,rfl⟩
  .cases h
 |int k=>
  intro l r h;simp only[zc]at h;split at h
  .split at h
   .rename_i p;cases h;simp only[A7,CM]at p;have:=V8 p.1;subst this;exact⟨[_],rfl,by rw[p.2];rfl,Y_ k⟩
   .cases h
  .cases h
 |str=>
  intro l r h;simp only[zc]at h;split at h
  .rename_i s R;split at h
   .rename_i p;cases h;have h0:s.data= #[]:=by have:=CM.1 p;rw[List.length_eq_zero_iff]at this;exact Array.toList_eq_nil_iff.1 this
    have K:s=⟨#[]⟩:=by cases s;simp only at h0;rw[h0]
    exact⟨[_],rfl,by rw[K];rfl,by simp[Ty.Q8]⟩
   .cases h
  .cases h
 |slice e m=>
  intro l r h;simp only[zc]at h;split at h
  .cases h;exact⟨[_],rfl,none,0,rfl,⟨AD _,AT _⟩,λ_=>⟨rfl,rfl⟩,λT h=>om⟩
  .cases h
 |agg t m=>intro l r h;exact m h
 |prod a b G H=>
  intro l r h;simp only[zc]at h;split at h
  .rename_i q C;have⟨c,A,j⟩:=G C;have⟨d,B,z⟩:=H h;exact⟨c++d,by rw[A,B,CF],c,d,rfl,j,z⟩
  .cases h
 |arr n e m=>
  have key:∀(n:Nat) (l r:KX X2),Nat.rec (motive:=λ_=>KX X2->X1 (KX X2)) some (λ_ m l=>match zc e l with|some r=>m r|none=>none) n l=some r->
   ∃c,l=c++r/\Rel w I (.arr n e) (List.replicate n e.Q8) c:=by
   intro n;induction n with
   |zero=>intro l r h;cases h;exact⟨[],rfl,rfl,oh,λi x y=>by simp at y⟩
   |succ n J=>
    intro l r h;simp only at h;split at h
    .rename_i q C;have⟨c,A,j⟩:=m C;have⟨d,B,z⟩:=J _ _ h;refine⟨c++d,by rw[A,B,CF],oh,?_,λi x y=>?_⟩
     .rw[AL,j.length,z.2.1,C6,Nat.add_comm]
     .cases i with
      |zero=>simp[List.replicate_succ]at y;subst y;rw[Nat.zero_mul,DA,List.take_append_of_le_length (by rw[j.length];omega),CV (by rw[j.length];omega)];exact j
      |succ i=>
       have E:(List.replicate n e.Q8)[i]?=some x:=by simpa[List.replicate_succ]using y
       have:=z.2.2 i x E;have D:(i+1)*e.sz=c.length+i*e.sz:=by rw[j.length,C6,Nat.add_comm]
       rw[D,eW];exact this
    .cases h
  intro l r h;exact key n l r h
 |ptr e m=>
  intro l r h;simp only[zc]at h;split at h
  .cases h;exact⟨[_],rfl,rfl⟩
  .cases h
 |map k v M Q=>
  intro l r h;simp only[zc]at h;split at h
  .cases h;exact⟨[_],rfl,[],⟨.refl _,AW⟩,none,rfl,λ_=>rfl,λb h=>om⟩
  .cases h
 |inil=>
  intro l r h;simp only[zc]at h;split at h
  .cases h;exact⟨[_],rfl,rfl⟩
  .cases h
 |self=>
  intro l r h;simp only[zc]at h;split at h
  .cases h;exact⟨[_],rfl,rfl⟩
  .cases h
 |opq=>
  intro l r h;simp only[zc]at h;split at h
  .rename_i v R;split at h
   .rename_i L;cases h;exact⟨[v],rfl,v,rfl,L⟩
   .cases h
  .cases h
 |hV a b _ _=>
  intro l r h;simp only[zc]at h;split at h
  .cases h;exact⟨[_],rfl,rfl⟩
  .cases h
 |ialt i t q O N=>
  intro l r h;simp only[zc]at h;split at h
  .rename_i hi;split at h
   .cases h;exact⟨[_],rfl,Rel.rL (t:=.ialt i t q) hi⟩
   .cases h
  .cases h
def Value.cZ{v:X2}(h:∀cs,v≠.agg cs):v.cells= #[v]:=by cases v<;>first|rfl|grind
theorem tM{v:X2}(h:zv t v=true):Z4 w I t t.Q8 v/\Rel w I t t.Q8 v.cells.toList:=by
 have a:∀{t:Ty} {l:KX X2},PZ t l=true->Rel w I t t.Q8 l:=by
  intro t l h;unfold PZ at h;split at h
  .rename_i j;have⟨c,b,m⟩:=A2f (w:=w) (I:=I) j;grind
  .cases h
 cases t with
 |agg t=>
  simp only[zv]at h;split at h
  .rename_i cs;have:=a h;exact⟨⟨_,by simp[KV],this⟩,this⟩
  .cases h
 |arr n e=>
  simp only[zv]at h;split at h
  .rename_i cs;have:=a h;exact⟨⟨_,by simp[KV],this⟩,this⟩
  .cases h
 |_=>
  simp only[zv]at h;split at h
  .cases h
  .rename_i d;have b:=a h;exact⟨⟨_,rfl,b⟩,by rw[Value.cZ d];exact b⟩
theorem KE(h:TL P t id=true):
 ∃i v,P.info? id=some i/\i.size=t.sz/\i.bytes<=24*t.sz/\i.zero=some v/\zv t v=true:=by
 unfold TL at h;rw[A7]at h;replace h:=h.1;split at h
 .rename_i i hi;simp only[A7]at h;obtain⟨b,d,a⟩:=h;split at a<;>simp_all
 .cases h
theorem AFz(h:TL P t id=true)(a:t.same (.agg GT)=true):id<P.types.size:=by simp_all[TL,A2V,A7,B7,C1,C2]
theorem JR{c:TypeDesc->X5}(h:(W5.one P t c).1 id=true):TL P t id=true/\∃d,P.underlying id=some d/\c d=true:=by simp only[W5.one,A7]at h;grind
theorem Lay.inf(h:Lay P t id):TL P t id=true:=by unfold Lay at h;cases t<;>first|exact(JR h).1|(simp[W5]at h)
theorem Lay.slice(h:Lay P (.slice e) id):∃el,P.underlying id=some (.slice el)/\Lay P e el/\0<e.sz:=by
 have⟨_,d,hd,a⟩:=JR h;split at a
 .simp only[A7,C2]at a;exact⟨_,hd,a.1,a.2⟩
 .cases a
theorem Lay.agg(h:Lay P (.agg p) id):∃fs,P.underlying id=some (.struct fs)/\(W5 P p).2 fs.toList 0=true/\0<p.sz:=by have⟨_,d,hd,a⟩:=JR h;split at a<;>simp_all
theorem Lay.arr(h:Lay P (.arr n e) id):∃el,P.underlying id=some (.array n el)/\Lay P e el/\0<e.sz/\1<n:=by
 have⟨_,d,hd,a⟩:=JR h;split at a
 .simp only[A7,C2]at a;have:=A5 a.1;subst this;exact⟨_,hd,a.2.1,a.2.2.1,a.2.2.2⟩
 .cases a
theorem Lay.map{k v:Ty}(h:Lay P (.map k v) id):∃a b,P.underlying id=some (.map a b)/\Lay P k a/\Lay P v b:=by
 have⟨_,d,hd,e⟩:=JR h;split at e
 .simp only[A7]at e;exact⟨_,_,hd,e.1,e.2⟩
 .cases e
theorem Lay.ptr(h:Lay P (.ptr e) id):∃el,P.underlying id=some (.pointer el)/\Lay P e el:=by
 have⟨_,d,hd,a⟩:=JR h;split at a
 .exact⟨_,hd,a⟩
 .cases a
theorem Lay.int{k:IntKind}(h:Lay P (.int k) id):P.underlying id=some (.int k):=by have⟨_,d,hd,a⟩:=JR h;grind[V8]
theorem Lay.self(h:Lay P .self id):∃el,P.underlying id=some (.pointer el):=by have⟨_,d,hd,a⟩:=JR h;grind
theorem Lay.opq(h:Lay P .opq id):∃d,P.underlying id=some d/\∀ms,d≠.interface ms:=by have⟨_,d,hd,a⟩:=JR h;grind
theorem Lay.hV{a b:Ty}(h:Lay P (.hV a b) id):∃d,P.underlying id=some d/\∀ms,d≠.interface ms:=by have⟨_,d,hd,e⟩:=JR h;grind
theorem Lay.str(h:Lay P .str id):P.underlying id=some .string:=by have⟨_,d,hd,a⟩:=JR h;grind
theorem Lay.bool(h:Lay P .bool id):P.underlying id=some .bool:=by have⟨_,d,hd,a⟩:=JR h;grind
theorem Lay.iface(h:Lay P t id)(hi:t.isIface=true):∃ms,P.underlying id=some (.interface ms):=by
 cases t with
 |inil=>have⟨_,d,hd,b⟩:=JR h;grind
 |ialt i a r=>have⟨_,d,hd,b⟩:=JR h;grind
 |_=>simp[Ty.isIface]at hi
def Ty.isAgg:Ty->X5
 | .agg _=>true
 | .arr _ _=>true
 |_=>false
theorem Lay.isAgg(h:Lay P t id):∃d,P.underlying id=some d/\(match d with| .struct _| .array _ _=>true|_=>false)=t.isAgg:=by
 cases t with
 |agg p=>obtain⟨fs,j,_⟩:=h.agg;exact⟨_,j,rfl⟩
 |arr n e=>obtain⟨el,j,_⟩:=h.arr;exact⟨_,j,rfl⟩
 |prod a b=>simp[Lay,W5]at h
 |unit=>simp[Lay,W5]at h
 |slice e=>obtain⟨el,j,_⟩:=h.slice;exact⟨_,j,rfl⟩
 |map k v=>obtain⟨a,b,j,_⟩:=h.map;exact⟨_,j,rfl⟩
 |ptr e=>obtain⟨el,j,_⟩:=h.ptr;exact⟨_,j,rfl⟩
 |bool=>exact⟨_,h.bool,rfl⟩
 |int k=>exact⟨_,h.int,rfl⟩
 |str=>exact⟨_,h.str,rfl⟩
 |inil=>have⟨ms,j⟩:=h.iface rfl;exact⟨_,j,rfl⟩
 |self=>
  have⟨_,d,hd,l⟩:=JR h;split at l
  .exact⟨_,hd,rfl⟩
  .cases l
 |opq=>have⟨_,d,hd,l⟩:=JR h;split at l<;>first|exact⟨_,hd,rfl⟩|cases l
 |hV a b=>
  have⟨_,d,hd,l⟩:=JR h;split at l
  .exact⟨_,hd,rfl⟩
  .cases l
 |ialt i a r=>
  have⟨_,d,hd,l⟩:=JR h;split at l
  .exact⟨_,hd,rfl⟩
  .cases l
theorem Z0:∀{p:Ty} {l:KX Field} {off:Nat},(W5 P p).2 l off=true->l.length=p.fields/\∀f F,l[f]?=some F->
 ∃u o,p.sub (GK p.fields f)=some u/\p.off (GK p.fields f)=some o/\F.offset=off+o/\Lay P u F.type:=by
 intro p
 have leaf:∀{t:Ty} {c:TypeDesc->X5} {l:KX Field} {off:Nat},t.fields=1->(∀id,(W5.one P t c).1 id=true->Lay P t id)->
  (W5.one P t c).2 l off=true->l.length=t.fields/\∀f F,l[f]?=some F->
   ∃u o,t.sub (GK t.fields f)=some u/\t.off (GK t.fields f)=some o/\F.offset=off+o/\Lay P u F.type:=by
  intro t c l off e E h;simp only[W5.one]at h;split at h
  .rename_i g;simp only[A7]at h;have D:=A5 h.1;refine⟨by rw[e];rfl,λf F d=>?_⟩;have j:f=0/\g=F:=by
    cases f with
    |zero=>grind
    |succ f=>simp at d
   obtain⟨rfl,rfl⟩:=j;rw[e];refine⟨t,0,by cases t<;>rfl,by cases t<;>rfl,oa,E _ ?_⟩;simp_all[W5.one,A7]
  .cases h
 induction p with
 |prod a b G s=>
  intro l off h;simp only[W5]at h;split at h
  .rename_i g r;simp only[A7]at h;obtain⟨e,x,y,z⟩:=h;have D:=A5 e;have C:0<b.fields:=by rwa[C2]at z
   have⟨k1,H⟩:=s y;refine⟨by simp[Ty.fields,k1],λf F d=>?_⟩;have B:∃m,b.fields=m:=⟨_,rfl⟩;obtain⟨m,w⟩:=B;cases m with
   |zero=>omega
   |succ m=>
    cases f with
    |zero=>
     have A:g=F:=by simpa using d
     subst A;refine⟨a,0,?_,?_,oa,x⟩
     .simp only[Ty.fields,w,GK,Ty.sub,A8]
     .simp only[Ty.fields,w,GK,Ty.off,A8]
    |succ f=>
     have⟨u,o,J,K,L,I⟩:=H f F (by simpa using d);refine⟨u,a.sz+o,?_,?_,oa,I⟩
     .simp_all[Ty.fields,GK,Ty.sub,A4]
     simp_all[Ty.fields,GK,Ty.off,A4]
  .cases h
 |unit=>
  intro l off h;simp only[W5]at h;split at h
  .exact⟨rfl,λf F d=>by simp at d⟩
  .cases h
 |_=>intro l off h;exact leaf rfl (λid h=>h) h
end
structure Z2(P:Program)(fr:Fr)(free:Nat->Prop)(σ:W4)(w:X4)(G:Gh):Prop where
 objs:∀k o,σ k=some o->V1 P fr w G k o
 sep:∀j k o o' b,σ j=some o->σ k=some o'->Bk G j o b->Bk G k o' b->j=k
 after:Q5 fr.gv fr.w0 fr.i0 w G.im
 fresh:∀k,free k->σ k=none/\G.ety k=none/\G.box k=none/\∀g,G.val k g=none
def JH(free:Nat->Prop)(self:Nat):Nat->Prop:=λk=>free k/\K0 self k=false
def RD(P:Program)(fr:Fr)(free:Nat->Prop)(self:Nat)(σ:W4)(w:X4)(G:Gh)(u:n_)(v:X2)(w':X4):Prop:=
 ∃G',PC w G w' G'/\Z2 P fr (JH free self) (EK σ u.wr) w' G'/\SR P w' G' u.sv v
inductive Q4:Z8->n_->Prop
 |pure (u:n_):Q4 (.pure u) u
 |may {α:Type} {m:Option α} {d:α} {f:α->n_} {x:α} (h:m=some x):Q4 (.may α m d f) (f x)
def Q4.PB{a:n_}(h:Q4 (.pure u) a):a=u:=by cases h;rfl
def Q4.QM(h:Q4 (.v s) u):u=⟨s,[]⟩:=h.PB
def Q4.Q1{m:X1 α}{d:α}{f:α->n_}(h:Q4 (.may α m d f) u):∃x,m=some x/\u=f x:=by cases h<;>grind
section
variable{P:Program}{fr:Fr}{free:Nat->Prop}{self:Nat}{σ:W4}{w:X4}{G:Gh}
def Z2.shrink{free':Nat->Prop}(h:Z2 P fr free σ w G)(a:∀k,free' k->free k):Z2 P fr free' σ w G:=
 ⟨h.objs,h.sep,h.after,λk hk=>h.fresh k (a k hk)⟩
def RD.same{v:X2}(a:Z2 P fr free σ w G)(b:SR P w G s v):RD P fr free self σ w G ⟨s,[]⟩ v w:=
 ⟨G,PC.refl _ _,a.shrink λ_ h=>h.1,b⟩
def Q6(P:Program)(dr:X5)(o:Oper)(a:Act)(w:X4)(R:X2->X4->Prop):Prop:=
 ∀(Q:Exit->Act->X4->Prop) (next:Act->X4->Prop),(∀v w',R v w'->(dr=true->w.drawn<=w'.drawn)->next (a.put o.dst v) w')->o.wp P a w next Q
def Q6.value{o:Oper}{a:Act}{v:X2}(h:(execOp a.eval o).run P w=.ok (.value v) w')(d:R v w'):Q6 P dr o a w R:=by
 intro Q next b
 unfold Oper.wp;rw[h];exact b v w' d λ_=>rT _ _ _ _ h
def Q6.skip{o:Oper}{a:Act}(h:(execOp a.eval o).run P w=.ok .skip w')(d:R undef w'):Q6 P dr o a w R:=by
 intro Q next b
 unfold Oper.wp;rw[h];exact b undef w' d λ_=>rT _ _ _ _ h
def Q6.enter{o:Oper}{a:Act}{f:FuncId}{args:Array X2}
 (h:(execOp a.eval o).run P w=.ok (.enter f args) w')(d:Calls P f args w' λe w''=>∃v,e=.returned v/\R v w''/\(dr=true->w'.drawn<=w''.drawn)):Q6 P dr o a w R:=by
 intro Q next l
 unfold Oper.wp;rw[h];refine Calls.mono d λe w'' j=>?_;obtain⟨v,rfl,m,hd⟩:=j;exact l v w'' m λb=>AM (rT _ _ _ _ h) (hd b)
def Q6.mono{o:Oper}{a:Act}{R':X2->X4->Prop}(h:Q6 P dr o a w R)(d:∀v w',R v w'->R' v w'):Q6 P dr o a w R':=
 λQ next b=>h Q next λv w' e hd=>b v w' (d v w' e) hd
def SR.int{k:IntKind}{n:Int}{v:X2}(h:SR P w G (.val (.int k) n) v):v=.int k n/\F_ k n:=by obtain⟨c,a,d,e⟩:=h;have b:c=[v]:=a;grind
theorem SR.R8{k:IntKind}{n:Int}(h:F_ k n):SR P w G (.val (.int k) n) (.int k n):=⟨_,rfl,rfl,h⟩
def SR.bool{b:X5}{v:X2}(h:SR P w G (.val .bool b) v):v=.bool b:=by obtain⟨c,e,j⟩:=h;have a:c=[v]:=e;subst a;have d:[v]=[.bool b]:=j;cases d;rfl
def SR.W9(b:X5):SR P w G (.val .bool b) (.bool b):=⟨_,rfl,rfl⟩
theorem SR.str{s:DO}{v:X2}(h:SR P w G (.val .str s) v):v=.string ⟨s.toArray⟩/\s.length<=281474976710656:=by obtain⟨c,a,d,e⟩:=h;have b:c=[v]:=a;grind
theorem SR.rF{s:DO}(h:s.length<=281474976710656):SR P w G (.val .str s) (.string ⟨s.toArray⟩):=⟨_,rfl,rfl,h⟩
def SR.val{x:t.T}{v:X2}(h:SR P w G (.val t x) v):Z4 w G.im t x v:=h
def TM(k:IntKind)(n:Int):F_ k (k.wrap n):=by cases k<;>simp[F_,IntKind.wrap,IntKind.min,IntKind.max,IntKind.signed,IntKind.bits]<;>omega
theorem AG0(a b:DO):(⟨a.toArray⟩:X3)++⟨b.toArray⟩=⟨(a++b).toArray⟩:=by rfl
theorem A2g(a:DO):(⟨a.toArray⟩:X3).toList=a:=by rw[ByteArray.toList_eq]
theorem OR(a:DO):(⟨a.toArray⟩:X3).size=a.length:=by rfl
def AG1{k l:IntKind}{x y z:Int}{t:TypeId}(h:shl? k x y=some z):(binOp .shl t (.int k x) (.int l y)).run P w=.ok (.int k z) w/\F_ k z:=by
 unfold shl? at h;by_cases h0:y<0
 .grind
 .rw[show decide (y<0)=false by simpa using h0]at h;cases h;exact⟨by simp[binOp,Op.shift,h0],TM _ _⟩
def AG2{k:IntKind}{x:Int}(h:F_ k x)(n:Nat):F_ k (x.fdiv (2 ^ n)):=by
 have a:(0:Int)<2 ^ n:=Int.pow_pos oi;rw[DG _ (Int.le_of_lt a)];have d:k.min<=0:=(Y_ k).1;have b:0<=k.max:=(Y_ k).2;have m:(1:Int)<=2 ^ n:=a;unfold F_ at *;by_cases e:0<=x
 .have j:=Int.ediv_nonneg e (Int.le_of_lt a);have l:x / 2 ^ n<=x:=Int.ediv_le_self _ e;omega
 .have j:x / 2 ^ n<0:=Int.ediv_neg_of_neg_of_pos oa a;have l:x<=x / 2 ^ n:=by rw[Int.le_ediv_iff_mul_le a];have:=Int.mul_le_mul_of_nonpos_left (a:=x) (b:=2 ^ n) (c:=1) oa m;rw[Int.mul_one]at this;exact this
  omega
def AG3{k l:IntKind}{x y z:Int}{t:TypeId}(a:F_ k x)(h:shr? k x y=some z):(binOp .shr t (.int k x) (.int l y)).run P w=.ok (.int k z) w/\F_ k z:=by
 unfold shr? at h;by_cases h0:y<0
 .grind
 .rw[show decide (y<0)=false by simpa using h0]at h;cases h;exact⟨by simp[binOp,Op.shift,h0],AG2 a _⟩
def AG4{k:IntKind}{x y:Int}(a:r_ op k x y=some r)(b:Q4 r u)
 (s:F_ k x)(A:F_ k y)(t:TypeId):u.wr=[]/\∃v,(binOp op t (.int k x) (.int k y)).run P w=.ok v w/\SR P w G u.sv v:=by
 cases op<;>simp only[r_,AJ]at a<;>first|(cases a;done)|skip
 case add=>subst a;rw[b.QM];exact⟨rfl,_,by simp[binOp,Op.intArith],SR.R8 (TM _ _)⟩
 case sub=>subst a;rw[b.QM];exact⟨rfl,_,by simp[binOp,Op.intArith],SR.R8 (TM _ _)⟩
 case mul=>subst a;rw[b.QM];exact⟨rfl,_,by simp[binOp,Op.intArith],SR.R8 (TM _ _)⟩
 case quo=>
  subst a;obtain⟨z,d,rfl⟩:=b.Q1;unfold div? at d;by_cases h0:y=0
  .grind
  .have:(y==0)=false:=by simpa using h0
   rw[this]at d;simp only[A8,AJ]at d;subst d;exact⟨rfl,_,by simp[binOp,Op.intDiv,h0],SR.R8 (TM _ _)⟩
 case rem=>
  subst a;obtain⟨z,d,rfl⟩:=b.Q1;unfold mod? at d;by_cases h0:y=0
  .grind
  .have:(y==0)=false:=by simpa using h0
   rw[this]at d;simp only[A8,AJ]at d;subst d;refine⟨rfl,_,by simp[binOp,Op.intDiv,h0],SR.R8 ?_⟩;have l:(x.tmod y).natAbs<=x.natAbs:=by rw[Int.natAbs_tmod];exact Nat.mod_le _ _
   have m:0<=x->0<=x.tmod y:=λh=>Int.tmod_nonneg _ h;have p:x<=0->x.tmod y<=0:=λh=>by have:=Int.tmod_nonneg y (show 0<= -x by omega);simp_all
   have j:k.min<=0:=(Y_ k).1;have e:0<=k.max:=(Y_ k).2;grind[F_]
 case eql=>subst a;rw[b.QM];refine⟨rfl,.bool (x==y),by simp[binOp,Op.intCmp],?_⟩;exact SR.W9 _
 case neq=>subst a;rw[b.QM];refine⟨rfl,.bool (x !=y),by simp[binOp,Op.intCmp],?_⟩;exact SR.W9 _
 case lss=>subst a;rw[b.QM];exact⟨rfl,_,by simp[binOp,Op.intCmp],SR.W9 _⟩
 case leq=>subst a;rw[b.QM];exact⟨rfl,_,by simp[binOp,Op.intCmp],SR.W9 _⟩
 case gtr=>subst a;rw[b.QM];exact⟨rfl,.bool (decide (x > y)),by simp[binOp,Op.intCmp],SR.W9 _⟩
 case geq=>subst a;rw[b.QM];exact⟨rfl,.bool (decide (x ≥ y)),by simp[binOp,Op.intCmp],SR.W9 _⟩
def AG5{x y:DO}(h:sA op x y=some r)(a:Q4 r u)(t:TypeId):
 u.wr=[]/\∃v,(binOp op t (.string ⟨x.toArray⟩) (.string ⟨y.toArray⟩)).run P w=.ok v w/\SR P w G u.sv v:=by
 cases op<;>simp only[sA,AJ]at h<;>first|(cases h;done)|skip
 case add=>
  subst h;obtain⟨z,b,rfl⟩:=a.Q1;unfold cat? at b;by_cases h0:x.length+y.length<=281474976710656
  .have d:decide (x.length+y.length<=281474976710656)=true:=by simpa using h0
   rw[d]at b;simp only[A4,AJ]at b;subst b;refine⟨rfl,.string (⟨x.toArray⟩++⟨y.toArray⟩),?_,?_⟩
   .grind[binOp,run_string_add_sum,OR]
   grind[AG0,SR.rF]
  grind
 case eql=>subst h;rw[a.QM];refine⟨rfl,.bool (x==y),by simp[binOp,Op.stringOp],?_⟩;exact SR.W9 _
 case neq=>subst h;rw[a.QM];refine⟨rfl,.bool (!(x==y)),by simp[binOp,Op.stringOp],?_⟩;exact SR.W9 _
 case lss=>subst h;rw[a.QM];refine⟨rfl,.bool (Op.bytesLess x y),by simp[binOp,Op.stringOp],?_⟩;exact SR.W9 _
 case leq=>subst h;rw[a.QM];refine⟨rfl,.bool (Op.bytesLess x y||x==y),by simp[binOp,Op.stringOp],?_⟩;exact SR.W9 _
 case gtr=>subst h;rw[a.QM];refine⟨rfl,.bool (!(Op.bytesLess x y||x==y)),by simp[binOp,Op.stringOp],?_⟩;exact SR.W9 _
 case geq=>subst h;rw[a.QM];refine⟨rfl,.bool (!(Op.bytesLess x y)),by simp[binOp,Op.stringOp],?_⟩;exact SR.W9 _
def eZ{t:TypeId}{x y:Operand}{v:X2}(h:∀cs,v≠.agg cs)(a:v≠.nilIface):
 (eqGuard op t x y v v').run P w=.ok () w:=by
 cases v<;>first|exact absurd rfl (h _)|exact absurd rfl a|(cases op<;>rfl)
def AG6{x y:X5}(h:sB op x y=some r)(b:Q4 r u){t:TypeId}(e:P.underlying t=some .bool):
 u.wr=[]/\∃v,(binOp op t (.bool x) (.bool y)).run P w=.ok v w/\SR P w G u.sv v:=by
 have hd:∀d,(Op.equalIn (d+1) t (.bool x) (.bool y)).run P w=.ok (x==y) w:=by intro d;simp[Op.equalIn,run_underlying e]
 have a:(Op.equal t (.bool x) (.bool y)).run P w=.ok (x==y) w:=hd 9999;cases op<;>simp only[sB,AJ]at h<;>first|(cases h;done)|skip
 case eql=>subst h;rw[b.QM];exact⟨rfl,.bool (x==y),by simp[binOp,a],SR.W9 _⟩
 case neq=>subst h;rw[b.QM];exact⟨rfl,.bool (!(x==y)),by simp[binOp,a],SR.W9 _⟩
def e_{b:X5}(h:VH op b=some r)(A:Q4 r u){t:TypeId}{v:X2}(B:∀cs,v≠.agg cs)(C:v≠.nilIface)(x y:Operand)
 (e:(Op.equal t v v').run P w=.ok b w)(l:∀k n,v≠.int k n)(j:∀k n,v≠.float k n)(d:∀k n m,v≠.complex k n m)(p:∀s,v≠.string s):
 u.wr=[]/\∃z,((do eqGuard op t x y v v';binOp op t v v':Sem X2)).run P w=.ok z w/\SR P w G u.sv z:=by
 have a:∀{z:X2},(binOp op t v v').run P w=.ok z w->((do eqGuard op t x y v v';binOp op t v v':Sem X2)).run P w=.ok z w:=by intro z D;rw[Sem.run_bind,eZ B C];exact D
 cases op<;>simp only[VH,AJ]at h<;>first|(cases h;done)|skip
 case eql=>subst h;rw[A.QM];refine⟨rfl,.bool b,a ?_,SR.W9 _⟩;cases v<;>first|exact absurd rfl (l _ _)|exact absurd rfl (j _ _)|exact absurd rfl (d _ _ _)|exact absurd rfl (p _)|simp[binOp,e]
 case neq=>subst h;rw[A.QM];refine⟨rfl,.bool (!b),a ?_,SR.W9 _⟩;cases v<;>first|exact absurd rfl (l _ _)|exact absurd rfl (j _ _)|exact absurd rfl (d _ _ _)|exact absurd rfl (p _)|simp[binOp,e]
def AG7{ty:X1 Ty}{Q:SV}{v:X2}(j:sC op ty s Q=some r)(I:Q4 r u)(h:SR P w G s v)(J:SR P w G Q v'){t:TypeId}(U:∀q,ty=some q->Lay P q t)(x y:Operand):
 u.wr=[]/\∃z,((do eqGuard op t x y v v';binOp op t v v':Sem X2)).run P w=.ok z w/\SR P w G u.sv z:=by
 have p:SR P w G .nilS v'->v'=.slice none 0 0:=λh=>by obtain⟨c,K,A⟩:=h;exact AB.1 ((show c=[v']from K).symm.trans A)
 have D:SR P w G .nilS v->v=.slice none 0 0:=λh=>by obtain⟨c,K,A⟩:=h;exact AB.1 ((show c=[v]from K).symm.trans A)
 unfold sC at j;split at j
 .rename_i e;have⟨el,M,_⟩:=(U _ rfl).slice;have hd:∀{a:X1 Addr} {n m:Nat},(Op.equal t (.slice a n m) (.slice none 0 0)).run P w=.ok a.isNone w:=by
   intro a n m;have:∀d,(Op.equalIn (d+1) t (.slice a n m) (.slice none 0 0)).run P w=.ok a.isNone w:=by intro d;cases a<;>simp[Op.equalIn,run_underlying M]
   exact this 9999
  split at j
  .obtain⟨c,L,_,B,n,m,A⟩:=h;have N:v=.slice (some B) n m:=AB.1 ((show c=[v]from L).symm.trans A);rw[N,p J];exact e_ j I (by intro _ h;cases h) qu x y hd (by intro _ _ h;cases h) (by intro _ _ h;cases h) (by intro _ _ _ h;cases h) (by intro _ h;cases h)
  .rename_i R;obtain⟨c,L,H,B,n,m,A,T⟩:=h;have N:v=.slice B n m:=AB.1 ((show c=[v]from L).symm.trans A);rw[N,p J];have E:∀b,nilM? R=some b->b=B.isNone:=by
    intro b E;cases R with
    |none=>cases E;rw[T rfl];rfl
    |some l=>
     cases l with
     |nil=>cases E
     |cons a l=>
      cases E;cases B with
      |some B=>rfl
      |none=>obtain⟨W,O,k1,_,V,_⟩:=H;rw[k1]at A;have e:=AB.1 A;injection e with e _ _;cases (V e).1
   split at j
   .cases j;obtain⟨b,C,rfl⟩:=I.Q1;have C:=E b C;subst C;exact e_ (op:=.eql) (b:=B.isNone) rfl (Q4.pure _) (by intro _ h;cases h) qu x y hd (by intro _ _ h;cases h) (by intro _ _ h;cases h) (by intro _ _ _ h;cases h) (by intro _ h;cases h)
   .cases j;obtain⟨b,C,rfl⟩:=I.Q1;have C:=E b C;subst C;exact e_ (op:=.neq) (b:=B.isNone) rfl (Q4.pure _) (by intro _ h;cases h) qu x y hd (by intro _ _ h;cases h) (by intro _ _ h;cases h) (by intro _ _ _ h;cases h) (by intro _ h;cases h)
   .cases j
  .rw[D h,p J];exact e_ j I (by intro _ h;cases h) qu x y hd (by intro _ _ h;cases h) (by intro _ _ h;cases h) (by intro _ _ _ h;cases h) (by intro _ h;cases h)
  .cases j
 .cases j
def AG8{J:SV}{v:X2}(d:dX op s J=some r)(j:Q4 r u)
 (h:SR P w G s v)(p:SR P w G J v')(t:TypeId)(x y:Operand)(A:∀b,s=.val .bool b->P.underlying t=some .bool):
 u.wr=[]/\∃z,((do eqGuard op t x y v v';binOp op t v v':Sem X2)).run P w=.ok z w/\SR P w G u.sv z:=by
 unfold dX at d;split at d
 .rename_i k a l b;obtain⟨rfl,I⟩:=h.int;obtain⟨rfl,A⟩:=p.int;have e:∀{z:X2},(binOp op t (.int k a) (.int l b)).run P w=.ok z w->((do eqGuard op t x y (.int k a) (.int l b);binOp op t (.int k a) (.int l b):Sem X2)).run P w=.ok z w:=by intro z m;rw[Sem.run_bind,eZ oh qu];exact m
  split at d
  .cases d;obtain⟨z,m,rfl⟩:=j.Q1;have⟨B,C⟩:=AG1 (P:=P) (w:=w) (l:=l) (t:=t) m;exact⟨rfl,_,e B,SR.R8 C⟩
  .cases d;obtain⟨z,m,rfl⟩:=j.Q1;have⟨B,C⟩:=AG3 (P:=P) (w:=w) (l:=l) (t:=t) I m;exact⟨rfl,_,e B,SR.R8 C⟩
  .by_cases hk:ON k l=true
   .rw[hk]at d;have:=V8 hk;subst this;have⟨D,z,E,H⟩:=AG4 (P:=P) (w:=w) (G:=G) d j I A t;grind
   grind
 .rename_i a b;obtain⟨rfl,_⟩:=h.str;obtain⟨rfl,_⟩:=p.str;have⟨D,z,E,H⟩:=AG5 (P:=P) (w:=w) (G:=G) d j t;simp_all[Sem.run_bind,eZ]
 .rename_i a b;have K:=h.bool;have L:=p.bool;subst K L;have⟨D,z,E,H⟩:=AG6 (P:=P) (w:=w) (G:=G) d j (A _ rfl);simp_all[Sem.run_bind,eZ]
 .cases d
def AG9{op:UnOp}{v:X2}(a:sD op s=some r)(d:Q4 r u)(h:SR P w G s v):
 u.wr=[]/\∃z,(Op.unary op v).run P w=.ok z w/\SR P w G u.sv z:=by
 unfold sD at a;split at a
 .rename_i b;have:=h.bool;subst this;cases op<;>simp only[AJ]at a<;>first|(cases a;done)|skip
  subst a;rw[d.QM];exact⟨rfl,.bool (!b),by simp[Op.unary],SR.W9 _⟩
 .rename_i k n;obtain⟨rfl,_⟩:=h.int;cases op<;>simp only[AJ]at a<;>first|(cases a;done)|skip
  subst a;rw[d.QM];exact⟨rfl,_,by rfl,SR.R8 (TM _ _)⟩
 .cases a
def SR.cast{u:Ty}{x:t.T}{y:u.T}{v:X2}(h:Ty.cast? t u x=some y)(a:SR P w G (.val t x) v):SR P w G (.val u y) v:=
 Z4.cast h a
def AGA{s1 d:SV}{v e j:X2}(a:sE s s1 d=some r)(p:Q4 r u)
 (h:SR P w G s v)(l:v=.bool true->SR P w G s1 e)(m:v=.bool false->SR P w G d j):
 u.wr=[]/\∃b,v=.bool b/\SR P w G u.sv (if b then e else j):=by
 unfold sE at a;split at a
 .rename_i c t x q y;split at a
  .rename_i z A;simp only[AJ]at a;subst a;rw[p.QM];have:=h.bool;subst this;refine⟨rfl,c,rfl,?_⟩;cases c with
   |true=>exact l rfl
   |false=>exact SR.cast A (m rfl)
  .cases a
 .cases a
def SV.list_ok:∀{l:SV} {vs:KX X2},CR P w G l vs->∀(i:Nat) (s:SV),l.list[i]?=some s->∃v,vs[i]?=some v/\SR P w G s v:=by
 intro l;induction l with
 |scons a b j m=>
  intro vs h i s hi;obtain⟨v,r,rfl,⟨c,d,e⟩,p⟩:=h;cases i with
  |zero=>
   have:a=s:=by simpa[SV.list]using hi
   subst this;exact⟨v,rfl,c,d,e⟩
  |succ i=>grind[SV.list]
 |_=>intro vs h i s hi;simp[SV.list]at hi
def AGB{v:X2}{i:Nat}(a:sO s i=some r)(y:Q4 r u)(h:SR P w G s v):
 u.wr=[]/\∃z,(Instr.extract v i).run P w=.ok z w/\SR P w G u.sv z:=by
 unfold sO at a;split at a
 .rename_i l i;split at a
  .rename_i q p;simp only[AJ]at a;subst a;rw[y.QM];obtain⟨c,j,A,d,m⟩:=h;have b:c=[v]:=j;rw[b]at d;injection d with h4 _;subst h4;have⟨z,e,x⟩:=SV.list_ok m _ _ p;rw[A_]at e;exact⟨rfl,z,by simp[Instr.extract,e],x⟩
  .cases a
 .cases a
def tN{xs:KX e.T}{v:X2}(h:Z4 w I (.slice e) xs v):
 ∃a b,v=.slice a xs.length b/\IZ xs.length b/\(a=none->xs=[]/\b=0)/\
  ∀d,a=some d->(b≠0->d.spot=none)/\∀i x,xs[i]?=some x->∃c,Row w I d.block (d.off+i*e.sz) e.sz c/\Rel w I e x c:=by
 obtain⟨c,j,a,b,m,p,s,y⟩:=h;have l:c=[v]:=j;grind
def A2h{xs:KX e.T}{a:X1 Addr}{cap:Nat}(h:IZ xs.length cap)(d:a=none->xs=[]/\cap=0)
 (j:∀b,a=some b->(cap≠0->b.spot=none)/\∀i x,xs[i]?=some x->∃c,Row w I b.block (b.off+i*e.sz) e.sz c/\Rel w I e x c):
 Z4 w I (.slice e) xs (.slice a xs.length cap):=⟨_,rfl,a,cap,rfl,h,d,j⟩
def at?_some{l:KX α}{x:α}(h:at? l i=some x):0<=i/\i.toNat<l.length/\l[i.toNat]?=some x:=by grind[at?,decide,List.getElem?_eq_some_iff]
def in?_some{x:Unit}(h:in? n i=some x):0<=i/\i.toNat<n:=by grind[in?,decide,Bool.and_eq_false_iff]
def cut?_some{l r:KX α}{lo hi:Int}(h:cut? l lo hi=some r):0<=lo/\lo<=hi/\hi<=l.length/\r=(l.take hi.toNat).drop lo.toNat:=by unfold cut? at h;grind
theorem tO(b:UInt8):F_ .u8 (b.toNat:Int):=by have:=b.toNat_lt;grind[F_,IntKind.min,IntKind.max,IntKind.signed,IntKind.bits]
theorem TN(l:Lay P e id){x:e.T}{cs:Array X2}{off:Nat}(h:Rel w I e x ((cs.toList.drop off).take e.sz))(B:off+e.sz<=cs.size):
 ∃v,(part id cs off).run P w=.ok v w/\Z4 w I e x v:=by
 obtain⟨d,hd,j⟩:=l.isAgg;have⟨i,z,hi,p,_,_,_⟩:=KE l.inf;unfold part isAgg;simp only[Sem.run_bind,run_underlying hd,Result.andThen_ok];by_cases b:e.isAgg=true
 .rw[b]at j;refine⟨.agg (cs.extract off (off+e.sz)),?_,((cs.toList.drop off).take e.sz),?_,h⟩
  .have A:P.cellsOf id=e.sz:=by simp[Program.cellsOf,hi,p]
   cases d<;>simp at j<;>simp[run_sizeOf w hi,A]
  .have:(cs.extract off (off+e.sz))=((cs.toList.drop off).take e.sz).toArray:=by apply C9;simp[Array.toList_extract,List.extract_eq_take_drop]
   rw[this];cases e<;>simp[Ty.isAgg]at b<;>rfl
 .have a:e.isAgg=false:=by simpa using b
  rw[a]at j;have s:=h.length;have y:e.sz=1:=by cases e<;>first|rfl|(exfalso;simp[Ty.isAgg]at a;done)|(exfalso;simp[Lay,W5]at l;done)
  rw[y]at h B;have m:off<cs.size:=oa;have C:cs[off]?=some cs[off]:=by simp[m]
  refine⟨cs[off],?_,[cs[off]],?_,?_⟩
  .cases d<;>simp at j<;>simp[C]
  .cases e<;>first|rfl|(exfalso;simp[Ty.isAgg]at a;done)|(exfalso;simp[Lay,W5]at l;done)
  grind[List.drop_eq_getElem_cons]
theorem AGC(hl:P.underlying id=some .string){k:IntKind}{s:DO}(hu:Q4 (A2K s i) u):
 u.wr=[]/\∃z,(Instr.index id (.string ⟨s.toArray⟩) (.int k i)).run P w=.ok z w/\SR P w G u.sv z:=by
 obtain⟨b,hb,rfl⟩:=hu.Q1;obtain⟨h1,h2,h3⟩:=at?_some hb;have h4:i.toNat<(⟨s.toArray⟩:X3).size:=by rw[OR];exact h2
 refine⟨rfl,.int .u8 (b.toNat:Int),?_,SR.R8 (tO b)⟩;rw[run_index_string w id _ k i hl,dif_pos ⟨h1,oa⟩];have:(⟨s.toArray⟩:X3)[i.toNat]'h4=b:=by have:=(A3.1 h3).2;rw[<-this];rfl
 rw[this]
theorem AGD(A:Lay P (.arr n e) id){k:IntKind}{xs:KX e.T}{v:X2}(C:Q4 (A2L e xs i) u)(h:SR P w G (.val (.arr n e) xs) v):
 u.wr=[]/\∃z,(Instr.index id v (.int k i)).run P w=.ok z w/\SR P w G u.sv z:=by
 obtain⟨y,H,rfl⟩:=C.Q1;obtain⟨L,p,s⟩:=at?_some H;obtain⟨cs,x,d⟩:=h.val;have j:v=.agg cs.toArray:=x;subst j;obtain⟨k1,J,K⟩:=d;obtain⟨el,D,a,_,_⟩:=A.arr;obtain⟨I,z,m,B,_,_,_⟩:=KE a.inf;have l:i.toNat<n:=by rw[<-k1];exact p
 have b:(i.toNat+1)*e.sz<=n*e.sz:=AN _ l;rw[C6]at b;obtain⟨z,M,E⟩:=TN (P:=P) a (cs:=cs.toArray) (off:=i.toNat*e.sz) (by simpa using K _ _ s) (by simp[J];omega);refine⟨rfl,z,?_,E⟩;unfold Instr.index;simp_all[Program.cellsOf,Sem.run_bind,asIntOf,Sem.run_pure,Result.andThen_ok,run_underlying,if_pos,run_sizeOf]
theorem AGE(d:Lay P t id){k:IntKind}{v:X2}(a:sJ t i s=some r)(e:Q4 r u)(h:SR P w G s v):
 u.wr=[]/\∃z,(Instr.index id v (.int k i)).run P w=.ok z w/\SR P w G u.sv z:=by
 unfold sJ at a;split at a
 .split at a
  .cases a;obtain⟨rfl,_⟩:=h.str;exact AGC d.str e
  .cases a
 .split at a
  .split at a
   .rename_i x b;cases a;exact AGD d e (SR.cast b h)
   .cases a
  .cases a
 .cases a
theorem P_{v:X2}(h:SR P w G (.obj k g) v):G.val k g=some v:=by obtain⟨c,a,v',d,_,e⟩:=h;have b:c=[v]:=a;grind
def tP{v:X2}(h:SR P w G (.obj k g) v):v.oneCell'=true:=by obtain⟨c,a,v',_,d,e⟩:=h;have b:c=[v]:=a;grind
def AGF{v:X2}(h:G.val k g=some v)(a:v.oneCell'=true):SR P w G (.obj k g) v:=⟨_,rfl,v,h,a,rfl⟩
def RE.shape{el:Nat}{xs:KX t.T}{wr:X5}{v:X2}(h:RE fr w I el t xs wr v):∃a d,v=.slice a xs.length d/\xs.length<=281474976710656:=by
 rcases h with⟨rfl,rfl⟩|⟨b,d,cs,rfl,h,_⟩
 .simp
 .exact⟨_,_,rfl,h.2⟩
theorem AGG(U:Lay P t id)(ho:∀k o,σ k=some o->V1 P fr w G k o){v:X2}
 (d:sL σ t s=some r)(hu:Q4 r u)(h:SR P w G s v)(M:Array TypeId)(B:M[0]?=some id)(ty:TypeId):
 u.wr=[]/\∃z,(Builtin.len_ M ty #[v]).run P w=.ok z w/\SR P w G u.sv z:=by
 have QJ:∀{n:Nat},n<=281474976710656->F_ .i64 (n:Int):=by intro n h;constructor<;>simp[IntKind.min,IntKind.max,IntKind.signed,IntKind.bits]<;>omega
 have N:∀{n:Nat},r=YG n->n<=281474976710656->(Builtin.len_ M ty #[v]).run P w=.ok (.int .i64 (n:Int)) w->u.wr=[]/\∃z,(Builtin.len_ M ty #[v]).run P w=.ok z w/\SR P w G u.sv z:=by intro n j O C;subst j;rw[hu.QM];exact⟨rfl,_,C,SR.R8 (QJ O)⟩
 have nk:∀{n:Nat},r=A2M n->(Builtin.len_ M ty #[v]).run P w=.ok (.int .i64 (n:Int)) w->u.wr=[]/\∃z,(Builtin.len_ M ty #[v]).run P w=.ok z w/\SR P w G u.sv z:=by
  intro n j C;subst j;obtain⟨y,T,rfl⟩:=hu.Q1;unfold len? at T;cases J:Nat.ble n 281474976710656 with
  |false=>rw[J]at T;cases T
  |true=>rw[J]at T;cases T;exact⟨rfl,_,C,SR.R8 (QJ (CN J))⟩
 unfold sL at d;split at d
 .split at d
  .rename_i s;cases d;obtain⟨rfl,h8⟩:=h.str;refine N rfl h8 ?_;simp[Builtin.len_,B,run_underlying U.str,goInt];exact congrArg Nat.cast (OR _)
  .cases d
 .rename_i n e;cases J:Nat.ble n 281474976710656 with
  |false=>rw[J]at d;cases d
  |true=>
  rw[J]at d;cases d;obtain⟨el,m,_,_,_⟩:=U.arr;refine N rfl (CN J) ?_;simp[Builtin.len_,B,run_underlying m,goInt]
 .rename_i e;obtain⟨el,m,x0,_⟩:=U.slice;have I:∀{a:X1 Addr} {n A:Nat},v=.slice a n A->(Builtin.len_ M ty #[v]).run P w=.ok (.int .i64 (n:Int)) w:=by intro a n A L;subst L;simp[Builtin.len_,B,run_underlying m,goInt]
  split at d
  .rename_i k g;split at d
   .rename_i e' xs g' wr hk;cases H:Nat.beq g g' with
    |false=>rw[H]at d;cases d
    |true=>rw[H]at d;cases d;have:=A5 H;subst this;have⟨_,v',j,C⟩:=ho _ _ hk;rw[P_ h]at j;cases j;obtain⟨a,A,L,E⟩:=C.shape;exact N rfl E (I L)
   .rename_i x1 r' t' xs gk hh wr hk;cases H:Nat.beq g 0 with
    |false=>rw[H]at d;cases d
    |true=>rw[H]at d;cases d;have:=A5 H;subst this;have⟨a,A,j,E⟩:=RA.shape (xs:=xs) (ho _ _ hk);rw[P_ h]at j;exact N rfl E (I (A2 j))
   .cases d
  .cases d;obtain⟨c,hc,a,A,j,C⟩:=h;have L:v=_:=AB.1 ((show c=[v]from hc).symm.trans j);exact N rfl C (I L)
  .split at d
   .rename_i xs h9;cases d;have⟨a,A,L,E,_⟩:=tN (KW h9 h);exact N rfl E.2 (I L)
   .cases d
 .rename_i ka kb;obtain⟨ia,ib,m,_,_⟩:=U.map;split at d
  .rename_i k g;split at d
   .rename_i x2 x3 es hk;cases H:Nat.beq g 0 with
    |false=>rw[H]at d;cases d
    |true=>
     rw[H]at d;cases d;have:=A5 H;subst this;have⟨v',j,p,V,b,D,l,C,O,⟨Q,_⟩,_⟩:=ho _ _ hk;have Q:=Q.trans V.1.length_eq;rw[P_ h]at j;cases j;subst C;refine nk rfl ?_;have K:(getObj b).run P w=.ok (.map D l) w:=by simp[getObj,Sem.run,O]
     simp[Builtin.len_,B,run_underlying m,K,goInt,Q]
   .cases d
  .rename_i q x;split at d
   .rename_i es Z;cases d;have⟨c,j,R⟩:=(SR.cast Z h).val;obtain⟨p,V,rr,C,O,Q⟩:=R;have W:c=[v]:=j;rw[W]at C;injection C with h5 _;subst h5;refine nk rfl ?_;cases rr with
    |none=>
     have X:=O rfl;have hn:List.length (show KX (ka.T×kb.T)from es)=0:=by rw[<-V.1.length_eq,X];rfl
     simp[Builtin.len_,B,run_underlying m,goInt];exact hn.symm▸rfl
    |some b=>
     have⟨_,D,l,h6,⟨Y,_⟩,_⟩:=Q b rfl;have Y:=Y.trans V.1.length_eq;have K:(getObj b).run P w=.ok (.map D l) w:=by simp[getObj,Sem.run,h6]
     simp[Builtin.len_,B,run_underlying m,K,goInt];exact congrArg Nat.cast Y
   .cases d
  .cases d
 .cases d
def LV(P:Program)(w:X4)(G:Gh):X1 SV->X1 X2->Prop
 |some s,some x=>SR P w G s x
 |none,none=>True
 |_,_=>False
theorem OS{b:X1 SV}{v:X1 X2}{d n:Int}(a:R_ b d=some n)(h:LV P w G b v):
 (v=none/\n=d)\/∃k,v=some (.int k n):=by
 unfold R_ at a;split at a
 .rename_i k m;cases v with
  |none=>exact absurd h id
  |some x=>obtain⟨rfl,_⟩:=SR.int h;grind
 .cases v with
  |none=>grind
  |some x=>exact absurd h id
 .cases a
def ZA{isS:X5}{len cap:Nat}{lo hi:X1 X2}{l h:Int}(d:(lo=none/\l=0)\/∃k,lo=some (.int k l))(e:(hi=none/\h=len)\/∃k,hi=some (.int k h))
 (b:0<=l)(a:l<=h)(j:h<=cap):(Instr.sliceBounds isS len cap lo hi none).run P w=.ok (l.toNat,h.toNat,cap) w:=by
 have m:h.toNat<=cap:=oa;rcases d with⟨rfl,rfl⟩|⟨k,rfl⟩<;>rcases e with⟨rfl,rfl⟩|⟨p,rfl⟩
 .rfl
 .simp_all[Instr.sliceBounds,Instr.sliceBound,asIntOf]
 .simp[Instr.sliceBounds,Instr.sliceBound,asIntOf,b,a]
 .simp[Instr.sliceBounds,Instr.sliceBound,asIntOf,b,show 0<=h by omega,j];omega
theorem AGH(B:P.underlying id=some .string){s:DO}(H:s.length<=281474976710656)
 (h:sM s lo hi=some r)(C:Q4 r u)(e:LV P w G lo vlo)(d:LV P w G hi vhi):
 u.wr=[]/\∃z,(Instr.sliceAt id (.string ⟨s.toArray⟩) vlo vhi none).run P w=.ok z w/\SR P w G u.sv z:=by
 unfold sM at h;split at h
 .rename_i l m b a;cases h;obtain⟨y,D,rfl⟩:=C.Q1;obtain⟨p,x,E,A⟩:=cut?_some D;have j:=ZA (P:=P) (w:=w) (isS:=false) (len:=s.length) (cap:=s.length) (OS b e) (OS a d) p x oa;refine⟨rfl,.string ((⟨s.toArray⟩:X3).extract l.toNat m.toNat),?_,?_⟩
  .simp only[Instr.sliceAt,Sem.run_bind,run_underlying B,Result.andThen_ok,Instr.slice,Option.isSome_none,CJ,CE];rw[OR,j];rfl
  .have:(⟨s.toArray⟩:X3).extract l.toNat m.toNat=⟨y.toArray⟩:=by apply ByteArray.ext;rw[ByteArray.data_extract];apply C9;rw[A];simp only[List.extract_toArray,List.extract_eq_take_drop];rw[DD]
   grind[SR.rF,List.length_drop,List.length_take]
 .cases h
theorem AGI(T:Lay P (.slice e) id){xs:KX e.T}{v:X2}
 (A:VL e xs lo hi=some r)(V:Q4 r u)(h:Z4 w G.im (.slice e) xs v)(H:LV P w G lo vlo)(D:LV P w G hi vhi):
 u.wr=[]/\∃z,(Instr.sliceAt id v vlo vhi none).run P w=.ok z w/\SR P w G u.sv z:=by
 obtain⟨el,W,E,_⟩:=T.slice;have⟨Y,z0,p,s,_,_,_⟩:=KE E.inf;have R:P.cellsOf el=e.sz:=by simp[Program.cellsOf,p,s]
 unfold VL at A;split at A
 .rename_i l K C B;cases A;obtain⟨y,X,rfl⟩:=V.Q1;obtain⟨N,O,h3,Q⟩:=cut?_some X;obtain⟨a,b,rfl,⟨k1,Z⟩,k2,k3⟩:=tN h;have U:=ZA (P:=P) (w:=w) (isS:=true) (len:=xs.length) (cap:=b) (OS C H) (OS B D) N O oa;have j:y.length=K.toNat-l.toNat:=by rw[Q];simp only[C0,BK];omega
  refine⟨rfl,.slice (if b=l.toNat then a else a.map (·.add (l.toNat*e.sz))) (K.toNat-l.toNat) (b-l.toNat),?_,?_⟩
  .simp_all[Instr.sliceAt,Sem.run_bind,run_underlying,Result.andThen_ok,Instr.slice,run_sizeOf]
  .rw[<-j];refine A2h ⟨oa,oa⟩ ?_ ?_
   .intro I;have:a=none:=by
     split at I
     .exact I
     .cases a<;>first|rfl|(simp at I)
    grind
   .intro M d;by_cases m:b=l.toNat
    .grind
    .rw[if_neg m]at d;cases a with
     |none=>simp at d
     |some x=>
      simp only[BG,AJ]at d;have⟨J,q2⟩:=k3 x rfl;have q1:=J oa;have L:M=⟨x.block,x.off+l.toNat*e.sz,none⟩:=by
       rw[<-d];unfold Addr.add;split
       .rename_i hz;cases x;grind
       .rfl
      grind
 .cases A
theorem AGJ(l:Lay P t id)(p:∀k o,σ k=some o->V1 P fr w G k o){v:X2}
 (a:sN σ t s lo hi=some r)(m:Q4 r u)(h:SR P w G s v)(d:LV P w G lo vlo)(b:LV P w G hi vhi):
 u.wr=[]/\∃z,(Instr.sliceAt id v vlo vhi none).run P w=.ok z w/\SR P w G u.sv z:=by
 unfold sN at a;split at a
 .split at a
  .obtain⟨rfl,e⟩:=h.str;exact AGH l.str e a m d b
  .cases a
 .split at a
  .rename_i x j;exact AGI l a m (KD p j h) d b
  .cases a
 .cases a
theorem Lay.sz_pos(h:Lay P t id):0<t.sz:=by
 cases t with
 |agg p=>obtain⟨_,_,_,h⟩:=h.agg;exact h
 |arr n e=>obtain⟨_,_,_,d,j⟩:=h.arr;exact Nat.mul_pos oa d
 |prod a b=>simp[Lay,W5]at h
 |unit=>simp[Lay,W5]at h
 |_=>exact Nat.one_pos
theorem Lay.cells(h:Lay P t id):∃i,P.info? id=some i/\P.cellsOf id=t.sz:=by have⟨i,_,hi,a,_⟩:=KE h.inf;grind[Program.cellsOf]
theorem fA(j:Lay P (.agg p) id){u:Ty}(m:p.sub (GK p.fields f)=some u)(e:f<p.fields):
 ∃fs F o,P.underlying id=some (.struct fs)/\fs[f]?=some F/\p.off (GK p.fields f)=some o/\F.offset=o/\Lay P u F.type:=by
 obtain⟨fs,l,d,_⟩:=j.agg;have⟨a,b⟩:=Z0 d;have h:f<fs.toList.length:=by rw[a];exact e
 have⟨y,o,k1,s,w,x⟩:=b f _ (A1 h);simp_all
theorem MJ:(⟨b,o,none⟩:Addr).add n=⟨b,o+n,none⟩:=by grind[Addr.add]
def AGK{u:Ty}{F:Field}(h:Lay P u F.type)(a:Addr):(fieldPlace a F).run P w=.ok (a.add F.offset) w:=by obtain⟨i,hi,b⟩:=h.cells;have:=h.sz_pos;have h0:P.cellsOf F.type≠0:=oa;simp[fieldPlace,run_sizeOf w hi,h0]
def AGL:∀{p:KX X5} {t u:Ty} {o:Nat} {q:KX X5},t.off p=some o->t.sub p=some u->t.off (p++q)=(u.off q).map (o + ·)/\t.sub (p++q)=u.sub q:=by
 intro p;induction p with
 |nil=>
  intro t u o q h e;have l:t=u:=by cases t<;>exact A2 e
  have j:0=o:=by cases t<;>exact A2 h
  subst l j;simp
 |cons i r s=>
  intro t;induction t with
  |prod a b=>
   intro u o q h e;cases i with
   |false=>exact s (t:=a) h e
   |true=>
    simp only[Ty.off,A4]at h;cases m:b.off r with
    |none=>grind
    |some y=>rw[m]at h;cases h;have⟨k1,x⟩:=s (t:=b) (q:=q) m e;refine⟨?_,x⟩;simp only[List.cons_append,Ty.off,A4,k1];cases u.off q<;>simp[CW]
  |agg d w=>assumption
  |_=>intro u o q h e;cases h
theorem AGM{p:KX X5}{u:Ty}(h:G.box k=some (b,t))(a:t.off p=some o)(d:O4 t p u):
 SR P w G (.ptr k p u) (.pointer (some ⟨b,o,none⟩)):=⟨_,rfl,b,t,o,h,a,d,rfl⟩
theorem O5{p:KX X5}{u:Ty}{v:X2}(h:SR P w G (.ptr k p u) v):
 ∃b t o,G.box k=some (b,t)/\t.off p=some o/\O4 t p u/\v=.pointer (some ⟨b,o,none⟩):=by
 obtain⟨c,a,b,t,o,e,j,l,m⟩:=h;have d:c=[v]:=a;grind
def fB{i:Nat}{p:KX X5}{u:Ty}{v:X2}(h:SR P w G (.ptri k p i q u) v):
 ∃b t o n e a,G.box k=some (b,t)/\t.off p=some o/\O4 t p (.arr n e)/\i<n/\e.off q=some a/\O4 e q u/\v=.pointer (some ⟨b,o+i*e.sz+a,none⟩):=by
 obtain⟨c,d,b,t,o,n,e,a,l,m,s,x,y,z,A⟩:=h;have j:c=[v]:=d;grind
def S6{i:Nat}{u:Ty}{v:X2}(h:SR P w G (.elem k g i q u) v):
 ∃b o len a e d,G.val k g=some (.slice (some ⟨b,o,none⟩) len a)/\G.ety k=some e/\i<len/\e.off q=some d/\O4 e q u/\v=.pointer (some ⟨b,o+i*e.sz+d,none⟩):=by
 obtain⟨c,j,b,o,len,a,e,d,m,p,s,x,y,z⟩:=h;have l:c=[v]:=j;grind
def TO{x:t.T}{v:X2}(h:SR P w G (.ref t x) v):∃a c,v=.pointer (some a)/\a.spot=none/\Row w G.im a.block a.off t.sz c/\Rel w G.im t x c:=by obtain⟨d,b,a,c,j,l,m,p⟩:=h;have e:d=[v]:=b;grind
theorem Ty.bare_same{u:Ty}(h:u.bare.same p=true):u.bare=p:=Ty.Z7 h
def AGN{u:Ty}(h:u.bare=p)(q:KX X5):u.off q=p.off q/\(q≠[]->u.sub q=p.sub q):=by
 subst h;cases q with
 |nil=>exact⟨by cases u<;>first|rfl|(rename_i t;cases t<;>rfl),λh=>absurd rfl h⟩
 |cons i r=>grind[Ty.s9,Ty.l9]
def AGO{u v:Ty}(h:u.bare=p)(a:p.sub q=some v):∃v',u.sub q=some v'/\(v'=v\/(q=[]/\v'.bare=v)):=by
 subst h;cases q with
 |nil=>
  have:u.bare=v:=by cases b:u.bare<;>(rw[b]at a;exact A2 a)
  exact⟨u,by cases u<;>rfl,.inr ⟨rfl,this⟩⟩
 |cons i r=>exact⟨v,by rw[Ty.l9];exact a,.inl rfl⟩
def Row.sub{m:Nat}{c:KX X2}(h:Row w I b o n c)(hk:k+m<=n):Row w I b (o+k) m ((c.drop k).take m):=
 ⟨by rw [BK,C0,h.len]; omega,λj e=>by have⟨a,d⟩:=h.at_ (k+j) oa;grind⟩
def AGP(h:GK n f=[]):n<=1:=by
 cases n with
 |zero=>omega
 |succ n=>cases n with
  |zero=>omega
  |succ n=>cases f<;>simp[GK]at h
theorem tQ{u v:Ty}(s:YE p=true)(m:t.off q=some o)(w:O4 t q u)(j:u.bare=p)(x:p.sub (GK p.fields f)=some v)(A:f<p.fields)
 {d:Nat}(hof:p.off (GK p.fields f)=some d):
 t.off (q++GK p.fields f)=some (o+d)/\O4 t (q++GK p.fields f) v:=by
 obtain⟨z,b,e⟩:=w;have h:z.bare=p:=e.trans j;have⟨k1,B⟩:=AGL (q:=GK p.fields f) m b;have⟨C,_⟩:=AGN h (GK p.fields f);have⟨v',D,y⟩:=AGO h x;refine⟨oc,v',oc,?_⟩;rcases y with rfl|⟨a,l⟩
 .rfl
 .have b:p.fields=1:=by have:=AGP a;omega
  grind[Option.some.inj,YE,Nat.beq,Ty.Z7]
theorem AGQ{u:Ty}{x a:u.T}:(NZ u t x).isSome=(NZ u t a).isSome:=by unfold NZ;grind[Ty.cast?]
theorem at_some:∀{l:KX X5} {t:Ty} {x d:t.T},(Ty.at t l x).isSome=(Ty.at t l d).isSome:=by
 intro l;induction l with
 |nil=>intro t x d;cases t<;>rfl
 |cons b l e=>
  intro t x d;cases t with
  |prod a c=>cases b<;>exact e
  |agg q=>
   cases q with
   |prod a c=>cases b<;>exact e
   |_=>rfl
  |_=>rfl
def AGR{z z':e.T}:(O1 p f (.ref e z)).isSome=(O1 p f (.ref e z')).isSome:=by
 unfold O1;cases YE p with
 |false=>rfl
 |true=>simp only[A4];grind[AGQ,NZ,at_some,GK,Ty.at]
theorem A2i(O:Lay P (.agg p) id)(D:f<p.fields){X:SV}{v:X2}(a:O1 p f s=some X)(h:SR P w G s v):
 ∃z,(Instr.fieldAt id v f).run P w=.ok z w/\SR P w G X z:=by
 unfold O1 at a;cases A:YE p with
 |false=>grind
 |true=>
 rw[A]at a;simp only[A4]at a
 have C:∀{b o:Nat} {F:Field} {fs:Array Field} {u:Ty},P.underlying id=some (.struct fs)->fs[f]?=some F->Lay P u F.type->
  (Instr.fieldAt id (.pointer (some ⟨b,o,none⟩)) f).run P w=.ok (.pointer (some ⟨b,o+F.offset,none⟩)) w:=by
  intro b o F fs u j m l;simp only[Instr.fieldAt,Sem.run_bind,run_underlying j,Result.andThen_ok,m,Instr.sureAddr,Sem.run_pure,AGK l,MJ]
 split at a
 .rename_i k q u;split at a
  .rename_i N;cases d:p.sub (GK p.fields f)with
   |none=>grind
   |some W=>rw[d]at a;cases a;have⟨fs,F,M,E,H,B,Q,I⟩:=fA O d D;obtain⟨b,t,o,j,m,l,rfl⟩:=O5 h;grind[tQ,Ty.bare_same,AGM]
  .cases a
 .rename_i k q i r u;split at a
  .rename_i N;cases d:p.sub (GK p.fields f)with
   |none=>grind
   |some W=>rw[d]at a;cases a;have⟨fs,F,M,E,H,B,Q,I⟩:=fA O d D;obtain⟨b,t,o,n,e,V,j,m,l,T,U,Z,rfl⟩:=fB h;have⟨k1,L⟩:=tQ A U Z (Ty.bare_same N) d D B;refine⟨_,C E H I,_,rfl,b,t,o,n,e,V+M,j,m,l,T,k1,L,?_⟩;grind
  .cases a
 .rename_i k g i r u;split at a
  .rename_i N;cases d:p.sub (GK p.fields f)with
   |none=>grind
   |some W=>rw[d]at a;cases a;have⟨fs,F,M,E,H,B,Q,I⟩:=fA O d D;obtain⟨b,o1,len,R,e,V,j,m,l,T,U,rfl⟩:=S6 h;have⟨k1,L⟩:=tQ A T U (Ty.bare_same N) d D B;refine⟨_,C E H I,_,rfl,b,o1,len,R,e,V+M,j,m,l,k1,L,?_⟩;grind
  .cases a
 .rename_i u x;split at a
  .rename_i y hy;split at a
   .rename_i W z hz;cases a;obtain⟨Y,c,rfl,j,m,l⟩:=TO h;have J:Rel w G.im p y c:=VX (p:=p) hy l;have⟨o,k1,L,k3,k4⟩:=eX J hz;have⟨fs,F,M,E,H,B,Q,I⟩:=fA O L D;rw[k1]at B;cases B;obtain⟨bb,oo,sp⟩:=Y;simp only at j;subst j;refine⟨_,C E H I,_,rfl,_,_,rfl,rfl,?_,k4⟩;rw[Q];have K:u.sz=p.sz:=by rw[<-l.length,J.length]
    exact m.sub (by rw[K];omega)
   .cases a
  .cases a
 .cases a
def tR(m:∀k o,σ k=some o->V1 P fr w G k o){v:X2}(h:SR P w G s v):SR P w G (RT σ s) v:=by
 unfold RT;split
 .rename_i k p u;split
  .rename_i t c hk;split
   .rename_i x E;split
    .rename_i y H;obtain⟨b,X,o,A,B,⟨Y,O,C⟩,rfl⟩:=O5 h;have⟨N,cs,el,k1,I,R,J,K,L,_⟩:=m _ _ hk;rw[A]at k1;cases k1;have⟨W,l,z,T,U,V,M⟩:=YZ J K E;rw[B]at z;cases z;have d:=YY m H M;have a:=d.length;have e:((cs.toList.drop o).take l.sz).length=l.sz:=by rw[BK,C0,BD];omega
     have D:u.sz=l.sz:=by rw[<-a,e]
     refine⟨_,rfl,⟨b,o,none⟩,_,rfl,rfl,⟨a,λj Q=>⟨L.2 rfl _ (by show o+j<_;omega),?_⟩⟩,d⟩;simp only[World.cell?,I,Option.isSome_none,CJ,CE];rw[B0,if_pos oa,B5,A_]
    .exact h
   .exact h
  .exact h
 .exact h
theorem AGS(hl:Lay P t id)(ho:∀k o,σ k=some o->V1 P fr w G k o){k:IntKind}{v:X2}
 (d:sI σ t i s=some r)(O:Q4 r u)(h:SR P w G s v):
 u.wr=[]/\∃z,(Instr.indexAt id v (.int k i)).run P w=.ok z w/\SR P w G u.sv z:=by
 have K:∀{e:Ty} {el:Nat},P.underlying id=some (.slice el)->Lay P e el->∀{C:Addr} {len m:Nat},0<=i->i.toNat<len->
  (Instr.indexAt id (.slice (some C) len m) (.int k i)).run P w=.ok (.pointer (some (C.add (i.toNat*e.sz)))) w:=by
  intro e el l j C len m h0 x0;obtain⟨x2,I,Z⟩:=j.cells;simp only[Instr.indexAt,Sem.run_bind,asIntOf,Sem.run_pure,Result.andThen_ok,run_underlying l];rw[if_pos ⟨h0,oa⟩];simp only[Sem.run_bind,run_sizeOf w I,Z,Result.andThen_ok,Sem.run_pure]
 have B:∀{e:Ty} {U:KX e.T} {el:Nat},P.underlying id=some (.slice el)->Lay P e el->Z4 w G.im (.slice e) U v->∀{u:n_},Q4 (YF e U i) u->
  u.wr=[]/\∃z,(Instr.indexAt id v (.int k i)).run P w=.ok z w/\SR P w G u.sv z:=by
  intro e U el l j hv u O;obtain⟨y,M,rfl⟩:=O.Q1;obtain⟨A,D,N⟩:=at?_some M;obtain⟨a,m,rfl,k1,k2,k3⟩:=tN hv;cases a with
  |none=>grind
  |some C=>
   have⟨L,J⟩:=k3 C rfl;have⟨c,Z,h8⟩:=J _ _ N;obtain⟨bb,oo,sp⟩:=C;simp only at L;have L:=L (by have:=k1.1;omega);subst L;refine⟨rfl,_,K l j A D,_,rfl,_,c,rfl,?_,?_,h8⟩
   .rw[MJ]
   .rw[MJ];exact Z
 unfold sI at d;split at d
 .rename_i e;obtain⟨el,l,j,_⟩:=hl.slice;split at d
  .rename_i k' g;split at d
   .rename_i x5 X U g' wr hk;cases E:(Nat.beq g g'&&X.same e)with
    |false=>grind
    |true=>
     rw[E]at d;simp only[A4]at d;simp only[A7]at E;have T:=A5 E.1;have R:=Ty.Z7 E.2;subst T R;have⟨H,v',A,D⟩:=ho _ _ hk;rw[P_ h]at A;cases A;cases wr with
     |false=>cases d;exact B l j ⟨_,rfl,VW D⟩ O
     |true=>
      cases d;obtain⟨y,M,rfl⟩:=O.Q1;obtain⟨L,J⟩:=in?_some M;rcases D with⟨rfl,rfl⟩|⟨b,m,cs,rfl,_⟩
      .simp at J
      .refine⟨rfl,_,K l j L J,_,rfl,b,0,U.length,m,X,0,P_ h,H,J,by cases X<;>first|rfl|(rename_i t;cases t<;>rfl),⟨X,by cases X<;>first|rfl|(rename_i t;cases t<;>rfl),rfl⟩,?_⟩;rw[MJ];simp
   .rename_i y1 V W U gk hh wr hk;cases E:(Nat.beq g 0&&(E5 V W).same e)with
    |false=>grind
    |true=>
     rw[E]at d;simp only[A4]at d;simp only[A7]at E;have T:=A5 E.1;have R:=Ty.Z7 E.2;subst T R;have h7:=ho _ _ hk;cases wr with
     |false=>cases d;obtain⟨v',A,D⟩:=h7;rw[P_ h]at A;cases A;exact B (e:=E5 V W) l j ⟨_,rfl,D⟩ O
     |true=>
      cases d;obtain⟨y,M,rfl⟩:=O.Q1;obtain⟨L,J⟩:=in?_some M;obtain⟨h0,H,v',us,bs,A,_,_,_,⟨v2,D,_,N⟩,_⟩:=h7;have hv:v'=v2:=(AB.1 D);subst hv;have Y:=A;rw[P_ h]at Y;cases Y;rcases N with⟨N,_⟩|⟨_,rfl,h4,_⟩|⟨_,b,o,m,cells,x4,rfl,h4,_⟩
      .grind
      .grind
      .refine⟨rfl,_,K l j L J,_,rfl,b,o,_,m,E5 V W,0,A,H,J,by cases (E5 V W)<;>first|rfl|(rename_i t;cases t<;>rfl),⟨E5 V W,by cases (E5 V W)<;>first|rfl|(rename_i t;cases t<;>rfl),rfl⟩,?_⟩;rw[MJ];simp
   .cases d
  grind[KW]
 .rename_i n e;obtain⟨el,l,j,_,y0⟩:=hl.arr;obtain⟨x2,I,Z⟩:=j.cells;have Q:∀{C:Addr},0<=i->i.toNat<n->(Instr.indexAt id (.pointer (some C)) (.int k i)).run P w=.ok (.pointer (some (C.add (i.toNat*e.sz)))) w:=by intro C h0 x0;simp only[Instr.indexAt,Sem.run_bind,asIntOf,Sem.run_pure,Result.andThen_ok,run_underlying l,Instr.sureAddr];rw[if_pos ⟨h0,oa⟩];simp only[Sem.run_bind,run_sizeOf w I,Z,Result.andThen_ok,Sem.run_pure]
  replace h:=tR ho h;generalize RT σ s=s at d h;split at d
  .rename_i k' p u';cases E:u'.same (.arr n e)with
   |false=>grind
   |true=>rw[E]at d;cases d;have:=Ty.Z7 E;subst this;obtain⟨y,M,rfl⟩:=O.Q1;obtain⟨L,J⟩:=in?_some M;obtain⟨b,t,o,A,D,N,rfl⟩:=O5 h;refine⟨rfl,_,Q L J,_,rfl,b,t,o,n,e,0,A,D,N,J,by cases e<;>first|rfl|(rename_i t;cases t<;>rfl),⟨e,by cases e<;>first|rfl|(rename_i t;cases t<;>rfl),rfl⟩,?_⟩;rw[MJ];simp
  .rename_i u' x;split at d
   .rename_i U h9;cases d;obtain⟨y,M,rfl⟩:=O.Q1;obtain⟨A,D,N⟩:=at?_some M;obtain⟨C,c,rfl,k1,k2,k3⟩:=TO h;have x1:u'.sz=(Ty.arr n e).sz:=by obtain⟨ee,_⟩:=Ty.cast?_some h9;rw[ee]
    have x3:=Rel.cast h9 k3;obtain⟨m1,m2,m3⟩:=x3;obtain⟨bb,oo,sp⟩:=C;simp only at k1;subst k1;have h5:i.toNat<n:=by rw[<-m1];exact D
    have h6:(i.toNat+1)*e.sz<=n*e.sz:=AN _ h5;rw[C6]at h6;refine⟨rfl,_,Q A h5,_,rfl,_,_,rfl,?_,?_,m3 _ _ N⟩
    .rw[MJ]
    .rw[MJ];exact k2.sub (by rw[x1];assumption)
   .cases d
  .cases d
 .cases d
theorem AGT(V:Lay P (.arr n e) id)(W:n<=281474976710656){xs:KX e.T}{d b:Nat}{c:KX X2}(k2:Row w G.im d b (n*e.sz) c)(k3:Rel w G.im (.arr n e) xs c)
 
 (s:VL e xs lo hi=some r)(Z:Q4 r u)(K:LV P w G lo vlo)(H:LV P w G hi vhi):
 u.wr=[]/\∃z,(Instr.sliceAt id (.pointer (some ⟨d,b,none⟩)) vlo vhi none).run P w=.ok z w/\SR P w G u.sv z:=by
 obtain⟨el,h5,J,_,X⟩:=V.arr;obtain⟨h6,O,hc⟩:=J.cells;obtain⟨B,m2,L⟩:=k3;have B:xs.length=n:=B;have L:∀(i:Nat) (x:e.T),xs[i]?=some x->Rel w G.im e x ((c.drop (i*e.sz)).take e.sz):=L;unfold VL at s;split at s
 .rename_i l M E D;cases s;obtain⟨y,hy,rfl⟩:=Z.Q1;obtain⟨Q,R,T,N⟩:=cut?_some hy;have h:=OS D H;rw[B]at h T;have Y:=ZA (P:=P) (w:=w) (isS:=false) (len:=n) (cap:=n) (OS E K) h Q R oa;have a:y.length=M.toNat-l.toNat:=by rw[N];simp only[C0,BK];omega
  refine⟨rfl,.slice (some (if n=l.toNat then⟨d,b,none⟩else(Addr.mk d b none).add (l.toNat*e.sz))) (M.toNat-l.toNat) (n-l.toNat),?_,?_⟩
  .simp_all[Instr.sliceAt,Sem.run_bind,run_underlying,Result.andThen_ok,Instr.sureAddr,Sem.run_pure,run_sizeOf]
  .rw[<-a];refine A2h ⟨oa,oa⟩ (λU=>by cases U) ?_;intro ad C;cases C;by_cases j:n=l.toNat
   .grind
   .rw[if_neg j,MJ];refine⟨λ_=>rfl,λi x A=>?_⟩;have p:xs[l.toNat+i]?=some x:=by
     rw[N,B5,B0]at A;split at A
     .exact A
     .cases A
    have I:l.toNat+i<n:=by rw[<-B];exact(A3.1 p).1
    have m:(l.toNat+i+1)*e.sz<=n*e.sz:=AN _ I;rw[C6]at m;refine⟨_,?_,L _ _ p⟩;have:b+l.toNat*e.sz+i*e.sz=b+(l.toNat+i)*e.sz:=by rw[C7,CW]
    show Row w G.im d (b+l.toNat*e.sz+i*e.sz) e.sz _;rw[this];exact k2.sub oa
 .cases s
theorem AGU(p:Lay P t id)(A:∀k o,σ k=some o->V1 P fr w G k o){v:X2}
 (a:dZ σ t s lo hi=some r)(B:Q4 r u)(h:SR P w G s v)(d:LV P w G lo vlo)(b:LV P w G hi vhi):
 u.wr=[]/\∃z,(Instr.sliceAt id v vlo vhi none).run P w=.ok z w/\SR P w G u.sv z:=by
 unfold dZ at a;split at a
 .rename_i n e;replace h:=tR A h;generalize RT σ s=s at a h;split at a
  .rename_i I x;split at a
   .rename_i M j;cases y:Nat.ble n 281474976710656 with
    |false=>grind
    |true=>
     rw[y]at a;simp only[A4]at a;obtain⟨D,c,rfl,k1,C,H⟩:=TO h;have l:I.sz=(Ty.arr n e).sz:=by obtain⟨E,_⟩:=Ty.cast?_some j;rw[E]
     have m:=Rel.cast j H;obtain⟨J,K,L⟩:=D;simp only at k1;subst k1;rw[l]at C;exact AGT p (CN y) C m a B d b
   .cases a
  .cases a
 .exact AGJ p A a B h d b
end
end Go.Ev
