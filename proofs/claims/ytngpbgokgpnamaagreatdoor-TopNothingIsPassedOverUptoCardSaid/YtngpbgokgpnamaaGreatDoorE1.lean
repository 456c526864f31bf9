/-
  The evaluator on plain data, and what its operations do in the model, first part: it tells for each operation what the model's run of it gives.
-/
import Derived.KernelRfl
import Derived.MapKept
import Derived.Laws.Concat
import Derived.Laws.Strings3
import Derived.ChangeKeysEq
set_option linter.all false
set_option maxRecDepth 100000
noncomputable section
namespace Go
def oa{p:Prop}(h:p:=by omega):p:=h
def oc{p:Prop}(h:p:=by grind):p:=h
def oe{p:Prop}(h:p:=by kernel_rfl):p:=h
def oh{p:Prop}(h:p:=by simp):p:=h
def oi{p:Prop}(h:p:=by decide):p:=h
def om{p:Prop}(h:p:=by dsimp only;omega):p:=h
def oq{p:Prop}(h:p:=by cases h):p:=h
def ot{p:Prop}(h:p:=by simp;omega):p:=h
def ou{p:Prop}(h:p:=by intro h;cases h):p:=h
theorem oz{p:Prop}(h:p:=by simpa using h1):p:=h
end Go
namespace Go.Ev
variable{α:Type}{w w' w'':World}{k b o n f id g:Nat}{gv:Nat->Prop}{cs c1 c2 ds:List Value}{el:TypeId}{h:Option (List Nat)}{dr:Bool}{R:Value->World->Prop}{op:BinOp}{v':Value}{i:Int}{vlo vhi:Option Value}{q:List Bool}
abbrev A0:=@Option.bind_some
abbrev A1:=@List.getElem?_eq_getElem
abbrev A2:=@Option.some.inj
abbrev A3:=@List.getElem?_eq_some_iff
abbrev A4:=@Nat.eq_of_beq_eq_true
abbrev A5:=@Bool.and_eq_true
abbrev A6:=@cond_true
abbrev A7:=@decide_eq_true
abbrev A8:=@cond_false
abbrev A9:=@decide_eq_false
abbrev AA:=@Nat.lt_irrefl
abbrev AB:=@of_decide_eq_true
abbrev AC:=@List.singleton_inj
abbrev AD:=@Nat.le_refl
abbrev AE:=@List.mem_cons_self
abbrev AF:=@List.eq_nil_of_length_eq_zero
abbrev AG:=@of_decide_eq_false
abbrev AH:=@List.mem_of_getElem?
abbrev AI:=@List.length_append
abbrev AJ:=@List.getD_eq_getElem?_getD
abbrev AK:=@Option.some.injEq
abbrev AL:=@List.getElem_mem
abbrev AM:=@Nat.le_trans
abbrev AN:=@List.mem_cons_of_mem
abbrev AO:=@Nat.lt_of_lt_of_le
abbrev AP:=@List.mem_singleton
abbrev AQ:=@List.take_length
abbrev AR:=@Int.le_refl
abbrev AS:=@Nat.zero_le
abbrev AT:=@Nat.mul_le_mul_right
abbrev AU:=@Array.getElem?_eq_getElem
abbrev AV:=@List.nodup_cons
abbrev AW:=@List.nodup_nil
abbrev AX:=@List.getElem?_map
abbrev AY:=@List.nodup_append
abbrev AZ:=@List.mem_append
abbrev A_:=@List.mem_cons
abbrev B0:=@List.length_set
abbrev B1:=@Array.getElem?_eq_some_iff
abbrev B2:=@List.length_map
abbrev B3:=@List.getElem?_take
abbrev B4:=@Array.getElem?_toList
abbrev B5:=@Int.natCast_nonneg
abbrev B6:=@Option.bind_eq_some_iff
abbrev B7:=@List.size_toArray
abbrev B8:=@List.length_replicate
abbrev B9:=@List.getElem?_drop
abbrev BA:=@decide_eq_true_eq
abbrev BC:=@List.getElem?_append_right
abbrev BD:=@List.drop_eq_getElem_cons
abbrev BE:=@Bool.not_eq_true'
abbrev BG:=@Array.length_toList
abbrev BH:=@Option.map_some
abbrev BI:=@Classical.byContradiction
abbrev BJ:=@List.getElem?_append_left
abbrev BK:=@Bool.true_and
abbrev BL:=@List.length_cons
abbrev BM:=@Bool.or_eq_false_iff
abbrev BN:=@List.getElem?_of_mem
abbrev BO:=@Nat.zero_add
abbrev BP:=@List.mem_append_right
abbrev BQ:=@List.length_take
abbrev BR:=@List.ext_getElem?
abbrev BS:=@Bool.not_true
abbrev BT:=@List.all_eq_true
abbrev BU:=@List.getElem?_set_self
abbrev BV:=@List.mem_append_left
abbrev BW:=@Bool.not_eq_true
abbrev BX:=@Int.toNat_natCast
abbrev BY:=@Nat.blt_eq
abbrev BZ:=@List.getElem?_set_ne
abbrev B_:=@List.mem_map
abbrev C0:=@Bool.false_or
abbrev C1:=@List.append_assoc
abbrev C2:=@List.pairwise_iff_getElem
abbrev C4:=@List.length_nil
abbrev C5:=@Bool.or_eq_true
abbrev C6:=@Array.ext'
abbrev C7:=@Nat.mul_le_mul_left
abbrev C8:=@Nat.succ_mul
abbrev C9:=@List.length_drop
abbrev CA:=@List.mem_range
abbrev CC:=@Nat.ble_eq_true_of_le
abbrev CD:=@Array.getD_eq_getD_getElem?
abbrev CE:=@Nat.add_zero
abbrev CF:=@List.take_of_length_le
abbrev CG:=@ByteArray.size_extract
abbrev CH:=@Bool.not_false
abbrev CI:=@beq_iff_eq
abbrev CJ:=@Nat.le_of_ble_eq_true
abbrev CK:=@List.getElem?_eq_none
abbrev CL:=@if_false
abbrev CM:=@Nat.beq_refl
abbrev CN:=@Nat.add_assoc
abbrev CP:=@Nat.add_mul
abbrev CQ:=@List.map_cons
abbrev CS:=@Nat.mul_one
abbrev CT:=@List.length_filter_le
abbrev CU:=@List.append_nil
abbrev CV:=@Nat.min_eq_left
abbrev CW:=@Bool.and_eq_true_iff
abbrev CX:=@decide_eq_false_iff_not
abbrev CY:=@Nat.mul_comm
abbrev CZ:=@List.nil_append
abbrev C_:=@List.drop_drop
abbrev D0:=@Bool.false_and
abbrev D1:=@Nat.le_of_not_lt
abbrev D2:=@Array.getElem?_push_size
abbrev D3:=@List.getElem?_replicate
abbrev D4:=@List.pairwise_singleton
abbrev D5:=@Prod.mk.injEq
abbrev D6:=@Bool.false_eq_true
abbrev D7:=@List.map_append
abbrev D8:=@List.mem_filter
abbrev D9:=@Bool.and_eq_false_iff
abbrev DA:=@List.drop_take
abbrev DC:=@false_and
abbrev DD:=@Option.getD_some
abbrev DE:=@Int.fdiv_eq_ediv_of_nonneg
abbrev DF:=@List.mem_take_iff_getElem
abbrev DG:=@List.drop_zero
abbrev DH:=@List.take_take
abbrev DI:=@List.drop_of_length_le
abbrev DJ:=@Array.getElem?_push_lt
abbrev DK:=@Bool.and_true
def AEp:∀(m:Ask α) (w:World),w.drawn<=(w.ask m).2.drawn:=by
 intro m;induction m with
 |done a=>intro w;exact AD _
 |ask q r k b=>
  intro w;simp only[World.ask];split
  .exact b _ _
  .exact AM (Nat.le_succ _) (b _ {w with drawn:=w.drawn+1})
def AEq(w:World)(c:Sys):w.drawn<=(w.sys c).2.drawn:=by
 unfold World.sys;have h:=AEp (Kernel.perform c w.os) w;split
 .exact AD _
 .rename_i r os w' _ a;rw[a]at h;exact h
def AEr{p:Program}{at_:Addr}{u:TypeId}{k:Addr}{v:Value}{b:Bool}{l:List Addr}(h:w.viewStore p at_ u k v b=.ok (w',l)):w'.drawn=w.drawn:=by
 unfold World.viewStore at h;simp only[bind,Except.bind,pure,Except.pure,throw,throwThe,MonadExceptOf.throw]at h
 repeat' split at h
 all_goals first|(cases h;done)|(cases h;rfl)|skip
def AEs{p:Program}{a:Addr}{v:Value}{b:Bool}{l:List Addr}(h:w.farStore p a v b=.ok (w',l)):w'.drawn=w.drawn:=by
 unfold World.farStore at h;split at h
 .split at h
  .rename_i r d;cases h;exact AEr d
  .cases h
 .cases h
def AEt(w:World)(a:Addr)(n:Nat):(w.freeze a n).drawn=w.drawn:=by
 unfold World.freeze
 repeat' split
 all_goals rfl
theorem rB{P:Program}:∀(m:Sem α) (w w':World) (x:α),m.run P w=.ok x w'->w.drawn<=w'.drawn:=by
 intro m;induction m with
 |pure a=>intro w w' x h;simp only[Sem.run]at h;cases h;exact AD _
 |load m a k b=>
  intro w w' x h;simp only[Sem.run]at h;split at h
  .exact b _ _ _ _ h
  .split at h
   .exact b _ _ _ _ h
   .cases h
 |store m a v k b=>
  intro w w' x h;cases v;all_goals simp only[Sem.run]at h
  all_goals first
   |(cases h;done)
   | (split at h
      .split at h
       .cases h
       .exact b (w.setCell _ _) _ _ h
      .split at h
       .rename_i j l d;have:=b _ _ _ h;rw[AEs d]at this;exact this
       .cases h)
 |new o k b=>intro w w' x h;simp only[Sem.run]at h;exact b _ {w with heap:=w.heap.push o} _ _ h
 |shape r k b=>intro w w' x h;simp only[Sem.run]at h;exact b _ _ _ _ h
 |freeze a n k b=>intro w w' x h;simp only[Sem.run]at h;exact AM (Nat.le_of_eq (AEt w a n).symm) (b (w.freeze a n) _ _ h)
 |frozen a k b=>intro w w' x h;simp only[Sem.run]at h;exact b _ _ _ _ h
 |getObj r k b=>
  intro w w' x h;simp only[Sem.run]at h;split at h
  .cases h
  .exact b _ _ _ _ h
  .cases h
 |setObj r o k b=>
  intro w w' x h;simp only[Sem.run]at h;split at h
  .cases h
  .exact b {w with heap:=w.heap.setIfInBounds r o} _ _ h
  .cases h
 |choose q k b=>
  intro w w' x h;simp only[Sem.run]at h;split at h
  .exact b _ _ _ _ h
  .exact AM (Nat.le_succ _) (b _ {w with drawn:=w.drawn+1} _ _ h)
 |sys c k b=>intro w w' x h;simp only[Sem.run]at h;exact AM (AEq w c) (b _ _ _ _ h)
 |program k b=>intro w w' x h;simp only[Sem.run]at h;exact b _ _ _ _ h
 |mark m k b=>intro w w' x h;simp only[Sem.run]at h;exact b _ _ _ h
 |halt e=>intro w w' x h;simp only[Sem.run]at h;cases h
inductive Ty where
 |unit
 |bool
 |int (k:IntKind)
 |str
 |slice (e:Ty)
 |agg (t:Ty)
 |prod (a b:Ty)
 |arr (n:Nat) (e:Ty)
 |ptr (e:Ty)
 |map (k v:Ty)
 |inil
 |ialt (id:Nat) (t r:Ty)
 |self
 |opq
 |fnc (d c:Ty)
 deriving Inhabited
variable{p t e:Ty}
abbrev DL:=List UInt8
def Ty.T:Ty->Type
 | .unit=>Unit
 | .bool=>Bool
 | .int _=>Int
 | .str=>List UInt8
 | .slice e=>List e.T
 | .agg t=>t.T
 | .prod a b=>a.T×b.T
 | .arr _ e=>List e.T
 | .ptr e=>Option e.T
 | .map k v=>List (k.T×v.T)
 | .inil=>Unit
 | .ialt _ t r=>Sum t.T r.T
 | .self=>Unit
 | .opq=>Unit
 | .fnc d c=>Option (d.T->Option c.T)
def Ty.dflt:(t:Ty)->t.T
 | .unit=>()
 | .bool=>false
 | .int _=>(0:Int)
 | .str=>([]:List UInt8)
 | .slice e=>([]:List e.T)
 | .agg t=>t.dflt
 | .prod a b=>(a.dflt,b.dflt)
 | .arr n e=>List.replicate n e.dflt
 | .ptr e=>(none:Option e.T)
 | .map k v=>([]:List (k.T×v.T))
 | .inil=>()
 | .ialt _ _ r=>Sum.inr r.dflt
 | .self=>()
 | .opq=>()
 | .fnc d c=>(none:Option (d.T->Option c.T))
def OH:IntKind->IntKind->Bool
 | .i8,.i8=>true| .i16,.i16=>true| .i32,.i32=>true| .i64,.i64=>true
 | .u8,.u8=>true| .u16,.u16=>true| .u32,.u32=>true| .u64,.u64=>true
 |_,_=>false
theorem UR{a b:IntKind}(h:OH a b=true):a=b:=by cases a<;>cases b<;>first|rfl|cases h
def Ty.same:Ty->Ty->Bool
 | .unit,.unit=>true
 | .bool,.bool=>true
 | .int k,.int l=>OH k l
 | .str,.str=>true
 | .slice a,.slice b=>a.same b
 | .agg a,.agg b=>a.same b
 | .prod a b,.prod c d=>a.same c&&b.same d
 | .arr n a,.arr m b=>Nat.beq n m&&a.same b
 | .ptr a,.ptr b=>a.same b
 | .map a b,.map c d=>a.same c&&b.same d
 | .inil,.inil=>true
 | .self,.self=>true
 | .opq,.opq=>true
 | .fnc a b,.fnc c d=>a.same c&&b.same d
 | .ialt i a b,.ialt j c d=>Nat.beq i j&&(a.same c&&b.same d)
 |_,_=>false
theorem Ty.same_eq:∀{a b:Ty},a.same b=true->a=b:=by
 intro a;induction a with
 |unit=>grind[Ty.same]
 |bool=>grind[Ty.same]
 |int k=>intro b h;cases b<;>first|(simp only[Ty.same]at h;rw[UR h])|(simp[Ty.same]at h)
 |str=>grind[Ty.same]
 |slice e l=>intro b h;cases b<;>first|(simp only[Ty.same]at h;rw[l h])|(simp[Ty.same]at h)
 |agg e l=>intro b h;cases b<;>first|(simp only[Ty.same]at h;rw[l h])|(simp[Ty.same]at h)
 |prod x y d j=>intro b h;cases b<;>first|(simp only[Ty.same,A5]at h;rw[d h.1,j h.2])|(simp[Ty.same]at h)
 |arr n e l=>intro b h;cases b<;>first|(simp only[Ty.same,A5]at h;rw[A4 h.1,l h.2])|(simp[Ty.same]at h)
 |ptr e l=>intro b h;cases b<;>first|(simp only[Ty.same]at h;rw[l h])|(simp[Ty.same]at h)
 |map x y d j=>intro b h;cases b<;>first|(simp only[Ty.same,A5]at h;rw[d h.1,j h.2])|(simp[Ty.same]at h)
 |inil=>grind[Ty.same]
 |self=>grind[Ty.same]
 |opq=>grind[Ty.same]
 |fnc x y d j=>intro b h;cases b<;>first|(simp only[Ty.same,A5]at h;rw[d h.1,j h.2])|(simp[Ty.same]at h)
 |ialt i x y d j=>intro b h;cases b<;>first|(simp only[Ty.same,A5]at h;rw[A4 h.1,d h.2.1,j h.2.2])|(simp[Ty.same]at h)
def Ty.cast? (t u:Ty)(x:t.T):Option u.T:=
 if h:t.same u=true then some (Ty.same_eq h▸x)else none
theorem Ty.cast?_some{u:Ty}{x:t.T}{y:u.T}(h:Ty.cast? t u x=some y):∃e:t=u,e▸x=y:=by grind[Ty.cast?,Ty.same_eq,Option.some.inj]
def Ty.sz:Ty->Nat
 | .unit=>0
 | .agg t=>t.sz
 | .prod a b=>a.sz+b.sz
 | .arr n e=>n*e.sz
 |_=>1
inductive SV where
 |undef
 |val (t:Ty) (x:t.T)
 |nilS
 |nilI
 |nilP
 |nilM
 |nilF
 |pr (a b:SV)
 |obj (k g:Nat)
 |ptr (k:Nat) (p:List Bool) (u:Ty)
 |ptri (k:Nat) (p:List Bool) (i:Nat) (q:List Bool) (u:Ty)
 |elem (k g:Nat) (i:Nat) (q:List Bool) (u:Ty)
 |ref (t:Ty) (x:t.T)
 |fn (f:Nat) (caps:SV)
 |hof (nd:Bool) (dom cod:Ty) (F:dom.T->Option cod.T)
 |nns (e:Ty) (x:List e.T)
 |mns (e:Ty) (x:Option (List e.T))
 |snil
 |scons (a b:SV)
 |tup (l:SV)
 |grd (toks:List (Nat×Bool)) (g:Bool) (s:SV)
 |slf (k:Nat)
 |bt (t:Ty) (c:SV)
 |rf0 (t:Ty) (x:t.T)
 |lnS (n:Nat)
 deriving Inhabited
variable{s:SV}{lo hi:Option SV}
def SV.list:SV->List SV
 | .scons a b=>a::b.list
 |_=>[]
def SV.ofList:List SV->SV
 |[]=>.snil
 |a::r=>.scons a (SV.ofList r)
def E2:List Nat->Ty->Ty
 |[],t=>t
 |_::r,t=>.slice (E2 r t)
inductive Obj where
 |box (t:Ty) (c:SV) (w:Bool)
 |sl (id:Nat) (t:Ty) (xs:List t.T) (g:Nat) (w:Bool)
 |mp (k v:Ty) (es:List (k.T×v.T)) (w:Bool)
 |mg (id:Nat) (k t:Ty) (es:List (k.T×List t.T)) (tk:Option k.T) (gk:Nat)
 |dp (ids:List Nat) (t:Ty) (x:(E2 ids t).T) (gk:Nat) (hole:Option (List Nat)) (w:Bool)
 |it (a b:Ty) (es:List (a.T×b.T))
 deriving Inhabited
abbrev SSo:=Nat->Option Obj
variable{σ:SSo}
structure St where
 slots:Nat->SV
 sto:SSo
 n:Nat
inductive Ex where
 |normal
 |exit (id:Nat)
 |ret
def cU(k:IntKind)(n:Int):Bool:=decide (k.min<=n)&&decide (n<=k.max)
def cV:Value->SV
 | .bool b=>.val .bool b
 | .int k n=>bif cU k n then .val (.int k) n else .undef
 | .string s=>bif Nat.ble s.data.toList.length 281474976710656 then .val .str s.data.toList else .undef
 | .slice none 0 0=>.nilS
 | .nilIface=>.nilI
 | .pointer none=>.nilP
 | .map none=>.nilM
 | .nilFunc=>.nilF
 |_=>.undef
def GR(sl:Nat->SV):Operand->SV
 | .tmp t=>sl t
 | .const v=>cV v
 | .func f=>.fn f .snil
 | .global _=>.undef
def Ty.isIface:Ty->Bool
 | .inil=>true
 | .ialt _ _ r=>r.isIface
 |_=>false
def SV.as(t:Ty):SV->Option t.T
 | .val u x=>Ty.cast? u t x
 | .nilS=>match t with| .slice e=>some ([]:List e.T)|_=>none
 | .nilP=>match t with| .ptr e=>some (none:Option e.T)|_=>none
 | .nilI=>if t.isIface=true then some t.dflt else none
 | .nilM=>match t with| .map k v=>some ([]:List (k.T×v.T))|_=>none
 | .nns u x=>Ty.cast? (.slice u) t x
 | .mns u x=>Ty.cast? (.slice u) t (x.getD [])
 | .ref u x=>match t with| .ptr e=>(Ty.cast? u e x).map some|_=>none
 |_=>none
def QV(σ:SSo)(k g:Nat)(t:Ty):Option t.T:=
 match σ k with
 |some (.sl _ e xs g' w)=>if Nat.beq g g' && !w then Ty.cast? (.slice e) t xs else none
 |some (.mp a b es w)=>if Nat.beq g 0 && !w then Ty.cast? (.map a b) t es else none
 |some (.dp (i::r) e x _ _ w)=>if Nat.beq g 0 && !w then Ty.cast? (E2 (i::r) e) t x else none
 |_=>none
def SV.asV(σ:SSo)(t:Ty):SV->Option t.T
 | .obj k g=>QV σ k g t
 |s=>s.as t
def NK(u p:Ty)(x:u.T):Option p.T:=match u,x with
 | .agg q,x=>Ty.cast? q p x
 |u,x=>Ty.cast? u p x
def SV.asL(σ:SSo)(t:Ty):SV->Option t.T
 | .val u x=>NK u t x
 |s=>s.asV σ t
def OI(u t:Ty)(x:u.T):Option t.T:=match t with
 | .agg p=>match Ty.cast? u (.agg p) x with
  |some y=>some y
  |none=>Ty.cast? u p x
 |t=>NK u t x
def SV.asC(σ:SSo):(t:Ty)->SV->Option t.T
 | .prod a b=>λs=>match s with
  | .pr x y=>match SV.asC σ a x,SV.asC σ b y with
   |some u,some v=>some (u,v)
   |_,_=>none
  | .val u x=>NK u (.prod a b) x
  |s=>s.as (.prod a b)
 | .agg p=>λs=>match s with
  | .val u x=>NK u p x
  |s=>SV.asC σ p s
 | .unit=>SV.asL σ .unit
 | .bool=>SV.asL σ .bool
 | .int k=>SV.asL σ (.int k)
 | .str=>SV.asL σ .str
 | .slice e=>SV.asL σ (.slice e)
 | .arr n e=>SV.asL σ (.arr n e)
 | .ptr e=>SV.asL σ (.ptr e)
 | .map k v=>SV.asL σ (.map k v)
 | .inil=>SV.asL σ .inil
 | .ialt i t r=>SV.asL σ (.ialt i t r)
 | .self=>SV.asL σ .self
 | .opq=>SV.asL σ .opq
 | .fnc d c=>SV.asL σ (.fnc d c)
def SV.halves:SV->Option (SV×SV)
 | .pr a b=>some (a,b)
 | .val (.prod a b) x=>some (.val a x.1,.val b x.2)
 | .val (.agg (.prod a b)) x=>some (.val a (Prod.fst x),.val b (Prod.snd x))
 |_=>none
def SV.getAt:SV->List Bool->Option SV
 |s,[]=>some s
 |s,b::r=>match s.halves with
  |some (x,y)=>(bif b then y else x).getAt r
  |none=>none
def SV.setAt:SV->List Bool->SV->Option SV
 |_,[],v=>some v
 |s,b::r,v=>match s.halves with
  |some (x,y)=>bif b then(y.setAt r v).map (.pr x ·)else(x.setAt r v).map (.pr · y)
  |none=>none
def Ty.at:(t:Ty)->List Bool->t.T->Option ((u:Ty)×u.T)
 |t,[],x=>some ⟨t,x⟩
 | .prod a b,i::r,x=>bif i then Ty.at b r x.2 else Ty.at a r x.1
 | .agg (.prod a b),i::r,x=>bif i then Ty.at b r (Prod.snd x)else Ty.at a r (Prod.fst x)
 |_,_::_,_=>none
def Ty.put:(t:Ty)->List Bool->t.T->(u:Ty)->u.T->Option t.T
 |t,[],_,u,y=>Ty.cast? u t y
 | .prod a b,i::r,x,u,y=>bif i then(Ty.put b r x.2 u y).map (λz=>(x.1,z))else(Ty.put a r x.1 u y).map (λz=>(z,x.2))
 | .agg (.prod a b),i::r,x,u,y=>bif i then(Ty.put b r (Prod.snd x) u y).map (λz=>((Prod.fst x:a.T),z))else(Ty.put a r (Prod.fst x) u y).map (λz=>(z,(Prod.snd x:b.T)))
 |_,_::_,_,_,_=>none
def GK:(n f:Nat)->List Bool
 |0,_=>[]
 |1,_=>[]
 |_+2,0=>[false]
 |n+2,f+1=>true::GK (n+1) f
def Ty.off:Ty->List Bool->Option Nat
 |_,[]=>some 0
 | .prod a b,i::r=>bif i then(b.off r).map (a.sz + ·)else a.off r
 | .agg p,i::r=>Ty.off p (i::r)
 |_,_::_=>none
def Ty.sub:Ty->List Bool->Option Ty
 |t,[]=>some t
 | .prod a b,i::r=>bif i then b.sub r else a.sub r
 | .agg p,i::r=>Ty.sub p (i::r)
 |_,_::_=>none
def Ty.bare:Ty->Ty
 | .agg t=>t
 |t=>t
def Ty.fields:Ty->Nat
 | .prod _ b=>b.fields+1
 | .unit=>0
 |_=>1
inductive Sh where
 |val (t:Ty)
 |own (id:Nat) (t:Ty) (w:Bool)
 |io (id:Nat) (t:Ty)
 |omap (k v:Ty)
 |box (c:Sh)
 |pr (a b:Sh)
 |hof (nd:Bool) (d c:Ty)
 |fn (f:Nat)
 |nilS
 |nns (e:Ty)
 |mns (e:Ty)
 |any
 |bld (el:Nat) (c:Bool)
 |tr (s:Sh)
 |og (id:Nat) (k t:Ty)
 |dp (ids:List Nat) (t:Ty)
 |fz (t:Ty)
 |it (k v:Ty)
 deriving Inhabited
def GS:Ty:=.prod .self (.slice (.int .u8))
def Sh.T:Sh->Type
 | .val t=>t.T
 | .own _ t _=>List t.T
 | .io _ t=>List t.T
 | .omap k v=>List (k.T×v.T)
 | .box c=>c.T
 | .pr a b=>a.T×b.T
 | .hof _ d c=>d.T->Option c.T
 | .fn _=>Unit
 | .nilS=>Unit
 | .nns e=>List e.T
 | .mns e=>Option (List e.T)
 | .any=>Unit
 | .bld _ _=>List Int
 | .tr s=>s.T
 | .og _ k t=>List (k.T×List t.T)
 | .dp ids t=>(E2 ids t).T
 | .fz t=>t.T
 | .it k v=>List (k.T×v.T)
def Sh.ty:Sh->Ty
 | .val t=>t
 | .own _ t _=>.slice t
 | .io _ t=>.slice t
 | .omap k v=>.map k v
 | .box c=>.ptr c.ty
 | .pr a b=>.prod a.ty b.ty
 | .hof _ _ _=>.bool
 | .fn _=>.bool
 | .nilS=>.slice .bool
 | .nns e=>.slice e
 | .mns e=>.slice e
 | .any=>.bool
 | .bld _ _=>.ptr GS
 | .tr s=>.agg s.ty
 | .og _ k t=>.map k (.slice t)
 | .dp ids t=>E2 ids t
 | .fz t=>t
 | .it _ _=>.bool
def TupR:List Sh->Type
 |[]=>Unit
 |[a]=>a.T
 |a::b::r=>a.T×TupR (b::r)
def EU:Sh->Bool
 | .box _=>true
 | .io _ _=>true
 | .bld _ c=>!c
 |_=>false
def Sh.dflt:(s:Sh)->s.T
 | .val t=>t.dflt
 | .own _ t _=>([]:List t.T)
 | .io _ t=>([]:List t.T)
 | .omap k v=>([]:List (k.T×v.T))
 | .box c=>c.dflt
 | .pr a b=>(a.dflt,b.dflt)
 | .hof _ _ _=>λ_=>none
 | .fn _=>()
 | .nilS=>()
 | .nns e=>([]:List e.T)
 | .mns e=>(none:Option (List e.T))
 | .any=>()
 | .bld _ _=>([]:List Int)
 | .tr s=>s.dflt
 | .og _ k t=>([]:List (k.T×List t.T))
 | .dp ids t=>(E2 ids t).dflt
 | .fz t=>t.dflt
 | .it k v=>([]:List (k.T×v.T))
def TupR.dflt:(l:List Sh)->TupR l
 |[]=>()
 |[a]=>a.dflt
 |a::b::r=>(a.dflt,TupR.dflt (b::r))
def US:List Sh->Bool
 |[]=>true
 | .val _::r=>US r
 |_=>false
structure FSpec where
 ps:List Sh
 rs:List Sh
 F:TupR ps->Option (TupR (rs++ps.filter EU))
 dr:Bool
structure Kp where
 tm:List Nat
 sh:List Sh
def H3:List (Ex×Kp)->Type
 |[]=>Empty
 |[o]=>TupR o.2.sh
 |o::p::r=>Sum (TupR o.2.sh) (H3 (p::r))
structure NdS(inn:Kp)(outs:List (Ex×Kp)) where
 ok:Ty
 ov:Ty
 S:TupR inn.sh->List (ok.T×ov.T)->Prop
 F:TupR inn.sh->List (ok.T×ov.T)->Option (H3 outs)
structure CSpec where
 inn:Kp
 outs:List (Ex×Kp)
 wrs:List Nat
 F:TupR inn.sh->Option (H3 outs)
 al:List (Nat×Nat):=[]
 nd:Option (NdS inn outs):=none
 kx:Option Unit:=none
open Classical in
def QW{α Ω:Type}(S:α->Prop)(g:α->Option Ω):Option Ω:=
 if h:∃ω,∀o,S o->g o=some ω then some (Classical.choose h)else none
def AEu{Ω:Type}{S:α->Prop}{g:α->Option Ω}{ω:Ω}(h:QW S g=some ω):∀o,S o->g o=some ω:=by unfold QW at h;split at h<;>grind
theorem A1T{Ω:Type}{S:α->Prop}{g:α->Option Ω}{ω:Ω}(a:∃o,S o)(h:∀o,S o->g o=some ω):QW S g=some ω:=by have b:∃ω,∀o,S o->g o=some ω:=⟨ω,h⟩;unfold QW;grind
structure Env where
 ty:Nat->Option Ty
 fs:Nat->Option FSpec
 cut:Nat->Option CSpec
 wr:Nat->Bool
 el:Nat->Nat
 mt:String->Nat->Option Nat
 eq:Nat->Bool
 dr:Bool
 dp:Nat->Nat:=λ_=>0
 ky:Nat->Nat:=λ_=>0
 ks:Nat->Option Unit:=λ_=>none
def MU:Ty->Bool
 | .prod _ _=>true
 |_=>false
def SZ:(rs:List Sh)->(c:Ty)->TupR rs->Option c.T
 |[.val t],c,y=>bif MU c then none else Ty.cast? t c y
 | .val t::b::r,.prod p q,y=>match Ty.cast? t p y.1,SZ (b::r) q y.2 with
  |some u,some v=>some (u,v)
  |_,_=>none
 |_,_,_=>none
def rD:(c:Ty)->c.T->SV
 | .prod a b,y=>.scons (.val a y.1) (rD b y.2)
 |t,y=>.scons (.val t y) .snil
def cW:(c:Ty)->c.T->SV
 | .prod a b,y=>.tup (rD (.prod a b) y)
 |t,y=>.val t y
def A1U(d' c' d c:Ty)(F:d'.T->Option c'.T):Option (d.T->Option c.T):=
 if h:d'.same d=true then(if h':c'.same c=true then some (Ty.same_eq h▸Ty.same_eq h'▸F)else none)else none
def QX(σ:SSo)(s:SV):SV:=match s with
 | .ptr k p u=>match σ k with
  |some (.box _ c false)=>match c.getAt p with
   |some x=>match x.asC σ u with
    |some y=>.ref u y
    |none=>.ptr k p u
   |none=>.ptr k p u
  |_=>.ptr k p u
 |s=>s
def PM:SV->Bool
 | .snil=>true
 | .scons _ b=>PM b
 |_=>false
def rE(e u:Ty)(x:u.T):Option e.T:=match Ty.cast? u e x with
 |some y=>some y
 |none=>Ty.cast? (.agg u) e x
def cX(u:Ty)(x:u.T):(t:Ty)->Option t.T
 | .ptr e=>(rE e u x).map some
 |_=>none
def A1V(σ:SSo)(t:Ty):SV->Option t.T
 | .ref u x=>cX u x t
 | .rf0 u x=>cX u x t
 |s=>s.asV σ t
def UT(σ:SSo)(t:Ty)(s:SV):Option t.T:=A1V σ t (QX σ s)
def S_:(a:Sh)->(r:List Sh)->a.T->TupR r->TupR (a::r)
 |_,[],x,_=>x
 |_,_::_,x,y=>(x,y)
def XS(σ:SSo):(l:List Sh)->List SV->Option (TupR l)
 |[],[]=>some ()
 | .val t::r,s::w=>match UT σ t s,XS σ r w with
  |some x,some y=>some (S_ (.val t) r x y)
  |_,_=>none
 |_,_=>none
def XT(σ:SSo)(cs:List SV):Nat->(ps:List Sh)->(d:Ty)->d.T->Option (TupR ps)
 |0,.val t::r,d,x=>bif MU d then none else match Ty.cast? d t x,XS σ r cs with
  |some u,some v=>some (S_ (.val t) r u v)
  |_,_=>none
 |n+1,.val t::r,.prod p q,x=>match Ty.cast? p t x.1,XT σ cs n r q x.2 with
  |some u,some v=>some (S_ (.val t) r u v)
  |_,_=>none
 |_,_,_,_=>none
def XU:Ty->Nat
 | .prod _ q=>XU q+1
 |_=>0
def A1W(σ:SSo)(n:Nat)(ps:List Sh)(cs:List SV):Bool:=(XS σ (ps.drop (n+1)) cs).isSome
def PO(nd:Bool)(fs:Nat->Option FSpec)(σ:SSo)(d c:Ty):SV->Option (d.T->Option c.T)
 | .hof nd' d' c' F=>bif !nd||nd' then A1U d' c' d c F else none
 | .fn f caps=>match fs f with
  |some sp=>bif PM caps&&US sp.ps&&(!nd||sp.dr)&&A1W σ (XU d) sp.ps caps.list then some (λx=>(XT σ caps.list (XU d) sp.ps d x).bind λv=>(sp.F v).bind λr=>SZ _ c r)else none
  |_=>none
 |_=>none
def LG(σ:SSo)(id:Nat)(t:Ty)(w:Bool):SV->Option (List t.T)
 | .obj k g=>match σ k with
  |some (.sl id' t' xs g' w')=>if Nat.beq g 0&&Nat.beq g g'&&(Nat.beq id id'&&(bif w then w' else !w'))then Ty.cast? (.slice t') (.slice t) xs else none
  |_=>none
 | .nilS=>some ([]:List t.T)
 |_=>none
def XV(σ:SSo)(k v:Ty):SV->Option (List (k.T×v.T))
 | .obj j g=>match σ j with
  |some (.mp k' v' es w)=>if Nat.beq g 0&&w then Ty.cast? (.map k' v') (.map k v) es else none
  |_=>none
 |_=>none
def cY(σ:SSo)(k v:Ty):SV->Option (List (k.T×v.T))
 | .obj j g=>match σ j with
  |some (.it k' v' es)=>if Nat.beq g 0 then Ty.cast? (.map k' v') (.map k v) es else none
  |_=>none
 |_=>none
def XW(σ:SSo)(id:Nat)(k t:Ty):SV->Option (List (k.T×List t.T))
 | .obj j g=>match σ j with
  |some (.mg id' k' t' es none _)=>bif Nat.beq g 0&&Nat.beq id id' then Ty.cast? (.map k' (.slice t')) (.map k (.slice t)) es else none
  |_=>none
 |_=>none
def PP:List Nat->List Nat->Bool
 |[],[]=>true
 |a::r,b::s=>Nat.beq a b&&PP r s
 |_,_=>false
def QY(σ:SSo)(ids:List Nat)(t:Ty):SV->Option (E2 ids t).T
 | .obj k g=>match σ k with
  |some (.dp ids' t' x _ none true)=>bif Nat.beq g 0&&PP ids' ids then Ty.cast? (E2 ids' t') (E2 ids t) x else none
  |some (.sl id' t' xs g' true)=>bif Nat.beq g 0&&(Nat.beq g' 0&&PP [id'] ids)then Ty.cast? (.slice t') (E2 ids t) xs else none
  |_=>none
 | .nilS=>match ids with
  |[]=>none
  |_::r=>some ([]:List (E2 r t).T)
 |_=>none
def XX(f:Nat):SV->Option Unit
 | .fn g .snil=>if Nat.beq f g then some ()else none
 |_=>none
def cZ(e:Ty):SV->Option (List e.T)
 | .nns u x=>Ty.cast? (.slice u) (.slice e) x
 |_=>none
def c_(u e:Ty)(x:Option (List u.T)):Option (Option (List e.T)):=if h:u.same e=true then some (Ty.same_eq h▸x)else none
def dA(e:Ty):SV->Option (Option (List e.T))
 | .nilS=>some none
 | .nns u x=>c_ u e (some x)
 | .mns u x=>c_ u e x
 | .val u x=>(Ty.cast? u (.slice e) x).map some
 |_=>none
def XY:SV->Option Unit
 | .nilS=>some ()
 |_=>none
def PQ(σ:SSo):(s:Sh)->SV->Option s.T
 | .val t,v=>v.asC σ t
 | .own id t w,v=>LG σ id t w v
 | .io id t,v=>LG σ id t true v
 | .omap a b,v=>XV σ a b v
 | .pr a b,v=>match v.halves with
  |some (x,y)=>match PQ σ a x,PQ σ b y with
   |some u,some w=>some (u,w)
   |_,_=>none
  |none=>none
 | .fn f,v=>XX f v
 | .nilS,v=>XY v
 | .nns e,v=>cZ e v
 | .mns e,v=>dA e v
 | .box _,_=>none
 | .hof _ _ _,_=>none
 | .any,_=>none
 | .bld _ _,_=>none
 | .tr _,_=>none
 | .og id k t,v=>XW σ id k t v
 | .dp ids t,v=>QY σ ids t v
 | .fz _,_=>none
 | .it _ _,_=>none
def dB:Sh->Bool
 | .pr _ _=>true
 |_=>false
def A1X(σ:SSo)(s:Sh):SV->Option s.T
 | .bt u c=>bif dB s&&u.same (.agg s.ty)then PQ σ s c else none
 |_=>none
def dC(k:Nat):SV->Bool
 | .val t _=>t.same .self
 | .slf j=>Nat.beq j k
 | .ptr j [] _=>Nat.beq j k
 |_=>false
def UU(σ:SSo)(el:Nat):SV->Option (List Int)
 | .ptr k [] _=>match σ k with
  | some (.box t c true)=>bif t.same GS then (match c with
   | .pr x y=>bif dC k x then LG σ el (.int .u8) true y else none
   |_=>none)else none
  |_=>none
 |_=>none
def UV(σ:SSo)(c:Sh):SV->Option c.T
 | .ptr k [] _=>match σ k with
  |some (.box t v true)=>if t.same c.ty=true then PQ σ c v else none
  |_=>none
 |_=>none
def UW(fs:Nat->Option FSpec)(σ:SSo):(s:Sh)->SV->Option s.T
 | .val t,v=>v.asV σ t
 | .box c,v=>UV σ c v
 | .hof nd d c,v=>PO nd fs σ d c v
 | .own id t w,v=>LG σ id t w v
 | .io id t,v=>LG σ id t true v
 | .omap a b,v=>XV σ a b v
 | .fn f,v=>XX f v
 | .nilS,v=>XY v
 | .nns e,v=>cZ e v
 | .mns e,v=>dA e v
 | .pr _ _,_=>none
 | .any,_=>some ()
 | .bld el _,v=>UU σ el v
 | .tr s,v=>A1X σ s v
 | .og id k t,v=>XW σ id k t v
 | .dp ids t,v=>QY σ ids t v
 | .fz t,v=>UT σ t v
 | .it a b,v=>cY σ a b v
def GP:SV->List Nat
 | .obj k _=>[k]
 |_=>[]
def T0:(s:Sh)->SV->List Nat
 | .own _ _ _,v=>GP v
 | .io _ _,v=>GP v
 | .omap _ _,v=>GP v
 | .og _ _ _,v=>GP v
 | .dp _ _,v=>GP v
 | .pr a b,v=>match v.halves with
  |some (x,y)=>T0 a x++T0 b y
  |none=>[]
 |_,_=>[]
def dF(σ:SSo)(c:Sh):SV->List Nat
 | .ptr k _ _=>k::(match σ k with
  |some (.box _ v _)=>T0 c v
  |_=>[])
 |_=>[]
def dG(σ:SSo):SV->List Nat
 | .ptr k _ _=>k::(match σ k with
  |some (.box _ (.pr _ y) _)=>GP y
  |_=>[])
 |_=>[]
def QZ(σ:SSo):(s:Sh)->SV->List Nat
 | .own _ _ _,v=>GP v
 | .it _ _,v=>GP v
 | .io _ _,v=>GP v
 | .omap _ _,v=>GP v
 | .og _ _ _,v=>GP v
 | .dp _ _,v=>GP v
 | .box c,v=>dF σ c v
 | .bld _ _,v=>dG σ v
 | .tr s,.bt _ c=>T0 s c
 |_,_=>[]
def GL(σ:SSo):List Sh->List SV->List Nat
 |a::l,v::vs=>QZ σ a v++GL σ l vs
 |_,_=>[]
def EW(k:Nat):List Nat->Bool
 |[]=>false
 |j::r=>Nat.beq k j||EW k r
def LH:List Nat->Bool
 |[]=>true
 |k::r=>!(EW k r)&&LH r
def Q_(fs:Nat->Option FSpec)(σ:SSo):(l:List Sh)->List SV->Option (TupR l)
 |[],[]=>some ()
 |[a],[v]=>UW fs σ a v
 |a::b::r,v::w=>match UW fs σ a v,Q_ fs σ (b::r) w with
  |some x,some y=>some (x,y)
  |_,_=>none
 |_,_=>none
structure Mk where
 sv:SV
 obs:List (Nat×Option Obj)
 nx:Nat
def E_:(s:Sh)->s.T->Nat->Mk
 | .val t,x,n=>⟨.val t x,[],n⟩
 | .own id t w,xs,n=>⟨.obj n 0,[(n,some (.sl id t xs 0 w))],n+1⟩
 | .io id t,xs,n=>⟨.obj n 0,[(n,some (.sl id t xs 0 true))],n+1⟩
 | .omap k v,es,n=>⟨.obj n 0,[(n,some (.mp k v es true))],n+1⟩
 | .pr a b,x,n=>
  let u:=E_ a x.1 n
  let v:=E_ b x.2 u.nx
  ⟨.pr u.sv v.sv,u.obs++v.obs,v.nx⟩
 | .box c,x,n=>
  let u:=E_ c x (n+1)
  ⟨.ptr n [] c.ty,(n,some (.box c.ty u.sv true))::u.obs,u.nx⟩
 | .hof nd d c,F,n=>⟨.hof nd d c F,[],n⟩
 | .fn f,_,n=>⟨.fn f .snil,[],n⟩
 | .nilS,_,n=>⟨.nilS,[],n⟩
 | .nns e,x,n=>⟨.nns e x,[],n⟩
 | .mns e,x,n=>⟨.mns e x,[],n⟩
 | .any,_,n=>⟨.undef,[],n⟩
 | .bld el _,xs,n=>⟨.ptr n [] GS,[(n,some (.box GS (.pr (.slf n) (.obj (n+1) 0)) true)),(n+1,some (.sl el (.int .u8) xs 0 true))],n+2⟩
 | .tr s,x,n=>⟨.bt (.agg s.ty) (E_ s x n).sv,(E_ s x n).obs,(E_ s x n).nx⟩
 | .og id k t,es,n=>⟨.obj n 0,[(n,some (.mg id k t es none (n+1)))],n+2⟩
 | .fz t,x,n=>⟨.val t x,[],n⟩
 | .it _ _,_,n=>⟨.undef,[],n⟩
 | .dp ids t,x,n=>⟨.obj n 0,[(n,some (.dp ids t x (n+1) none true))],n+2⟩
def FE:(l:List Sh)->TupR l->Nat->List Mk
 |[],_,_=>[]
 |[a],x,n=>[E_ a x n]
 |a::b::r,x,n=>E_ a x.1 n::FE (b::r) x.2 (E_ a x.1 n).nx
def Sh.cnt:Sh->Nat
 | .own _ _ _=>1
 | .io _ _=>1
 | .omap _ _=>1
 | .pr a b=>a.cnt+b.cnt
 | .box c=>c.cnt+1
 | .bld _ _=>2
 | .tr s=>s.cnt
 | .og _ _ _=>2
 | .dp _ _=>2
 |_=>0
def GG:List Sh->Nat
 |[]=>0
 |a::r=>a.cnt+GG r
def XZ(l:List Mk)(n:Nat):Nat:=match l with
 |[]=>n
 |m::r=>XZ r m.nx
def I4{α:Type}(l:List (Nat×α))(i:Nat):Option α:=match l with
 |[]=>none
 |(j,x)::r=>bif Nat.beq i j then some x else I4 r i
def T1(tm:List Nat)(l:List SV)(i:Nat):SV:=match tm,l with
 |t::tm,s::l=>bif Nat.beq i t then s else T1 tm l i
 |_,_=>.undef
def I5(k:Kp)(x:TupR k.sh):St:=
 let l:=FE k.sh x 0
 let obs:=l.flatMap (·.obs)
 {slots:=T1 k.tm (l.map (·.sv)),sto:=λi=>(I4 obs i).getD none,n:=XZ l 0}
def R0(fs:Nat->Option FSpec)(σ:SSo)(l:List Sh)(vs:List SV):Option (TupR l):=
 bif LH (GL σ l vs)then Q_ fs σ l vs else none
def A1Y:SV->SV->Bool
 | .obj k g,.obj j h=>Nat.beq k j&&Nat.beq g h
 |_,_=>false
def X_:SV->SV->Bool
 | .ptr k [] _,.ptr j [] _=>Nat.beq k j
 |_,_=>false
def A1Z(sl:Nat->SV)(t c:Nat):Bool:=bif Nat.blt c 1048576 then A1Y (sl t) (sl c)else bif Nat.blt c 1099511627776 then(match sl t with
 | .fn f (.scons s .snil)=>Nat.beq f (c / 1048576-1)&&X_ s (sl (c % 1048576))
 |_=>false)else match sl t with
 | .fn f (.scons s (.scons r .snil))=>Nat.beq f (c / 1048576 % 1048576-1)&&(X_ s (sl (c % 1048576))&&X_ r (sl (c / 1099511627776-1)))
 |_=>false
def RJ:List (Nat×Nat)->(Nat->SV)->Bool
 |[],_=>true
 |p::r,sl=>A1Z sl p.1 p.2&&RJ r sl
def T2(sl:Nat->SV)(c:Nat):SV:=bif Nat.blt c 1048576 then sl c else bif Nat.blt c 1099511627776 then .fn (c / 1048576-1) (.scons (sl (c % 1048576)) .snil)else .fn (c / 1048576 % 1048576-1) (.scons (sl (c % 1048576)) (.scons (sl (c / 1099511627776-1)) .snil))
def Y0(al:List (Nat×Nat))(sl:Nat->SV)(t:Nat):SV:=match I4 al t with
 |some j=>T2 sl j
 |none=>sl t
def UX(al:List (Nat×Nat))(k:Kp)(x:TupR k.sh):St:={slots:=Y0 al (I5 k x).slots,sto:=(I5 k x).sto,n:=(I5 k x).n}
def OJ(fs:Nat->Option FSpec)(k:Kp)(st:St):Option (TupR k.sh):=R0 fs st.sto k.sh (k.tm.map st.slots)
def gone:List Nat->List (Nat×Option Obj)
 |[]=>[]
 |k::r=>(k,none)::gone r
def EF(σ:SSo):List (Nat×Option Obj)->SSo
 |[]=>σ
 |(k,o)::r=>λi=>bif Nat.beq i k then o else EF σ r i
def J9:Obj->Obj
 | .sl id t xs g _=>.sl id t xs g false
 | .mp k v es _=>.mp k v es false
 | .box t c _=>.box t c false
 | .mg id k t es tk gk=>match tk with
  |none=>.mp k (.slice t) es false
  |some q=>.mg id k t es (some q) gk
 | .dp ids t x gk h w=>.dp ids t x gk h (match h with|none=>false|some _=>w)
 | .it a b es=>.it a b es
def NL(σ:SSo):List Nat->List (Nat×Option Obj)
 |[]=>[]
 |k::r=>match σ k with
  |some o=>(k,some (J9 o))::NL σ r
  |none=>NL σ r
def AEv:Obj->Bool
 | .sl _ _ _ _ w=>w
 | .mp _ _ _ w=>w
 | .box _ _ w=>w
 | .mg _ _ _ _ tk _=>tk.isNone
 | .dp _ _ _ _ h w=>w&&h.isNone
 | .it _ _ _=>false
def hk(σ:SSo):SV->List Nat
 | .obj k _=>match σ k with
  |some o=>bif AEv o then [k]else []
  |none=>[]
 |_=>[]
def Y1(σ:SSo):SV->List Nat
 | .pr a b=>Y1 σ a++Y1 σ b
 |s=>hk σ s
def dH(σ:SSo):Sh->SV->List Nat
 | .val _,v=>Y1 σ v
 | .pr a b,.pr x y=>dH σ a x++dH σ b y
 |_,_=>[]
def rF(σ:SSo):SV->List Nat
 | .ptr k _ _=>match σ k with
  |some (.box _ c true)=>k::Y1 σ c
  |_=>[]
 |s=>hk σ s
def AEw(σ:SSo):Sh->SV->List Nat
 | .val _,v=>hk σ v
 | .fz _,v=>rF σ v
 | .hof _ _ _,.fn _ caps=>caps.list.flatMap (rF σ)
 | .tr s,.bt _ c=>dH σ s c
 | .box c,.ptr k _ _=>match σ k with
  |some (.box _ v _)=>dH σ c v
  |_=>[]
 |_,_=>[]
def rG(σ:SSo):List Sh->List SV->List Nat
 | .val _::l,v::vs=>hk σ v++rG σ l vs
 |_::l,_::vs=>rG σ l vs
 |_,_=>[]
def rH(σ:SSo):List Sh->List SV->List Nat
 |s::l,v::vs=>AEw σ s v++rH σ l vs
 |_,_=>[]
def dI(σ:SSo)(l:List Sh)(vs:List SV):SSo:=EF σ (NL σ (rH σ l vs))
def KH(k:Kp)(st:St):St:={slots:=st.slots,sto:=dI st.sto k.sh (k.tm.map st.slots),n:=st.n}
def UY(st:St)(wrs ks:List Nat)(k:Kp)(y:TupR k.sh):St:=
 let l:=FE k.sh y st.n
 { slots:=λt=>bif EW t k.tm then T1 k.tm (l.map (·.sv)) t else bif EW t wrs then .undef else st.slots t,
   sto:=EF st.sto (l.flatMap (·.obs)++gone ks),n:=st.n+GG k.sh}
def dJ(c:Nat):Nat:=bif Nat.blt c 1048576 then c else c % 1048576
def rI(c:Nat):Nat:=bif Nat.blt c 1099511627776 then dJ c else c / 1099511627776-1
def UZ(al:List (Nat×Nat))(wrs:List Nat)(sl:Nat->SV)(t:Nat):SV:=match I4 al t with
 |some c=>bif EW t wrs||(EW (dJ c) wrs||EW (rI c) wrs)then sl t else T2 sl c
 |none=>sl t
def Y2(al:List (Nat×Nat))(wrs:List Nat)(st:St):St:=match al with
 |[]=>st
 |al=>{slots:=UZ al wrs st.slots,sto:=st.sto,n:=st.n}
def Y3{Ω:Type}(st:St)(wrs ks:List Nat):(l:List (Ex×Kp))->H3 l->(Ex->St->Option Ω)->Option Ω
 |[],x,_=>Empty.elim x
 |[o],x,K=>K o.1 (UY st wrs ks o.2 x)
 |o::p::r,x,K=>Sum.casesOn (motive:=λ_=>Option Ω) x (λy=>K o.1 (UY st wrs ks o.2 y)) (λy=>Y3 st wrs ks (p::r) y K)
structure Upd where
 sv:SV
 wr:List (Nat×Option Obj)
variable{u:Upd}
inductive OpRes:Type 1 where
 |pure (u:Upd)
 |may (α:Type) (m:Option α) (d:α) (u:α->Upd)
variable{r:OpRes}
def OpRes.v(s:SV):OpRes:=.pure ⟨s,[]⟩
def at? {α:Type}(l:List α)(i:Int):Option α:=bif decide (0<=i)then l[i.toNat]? else none
def cut? {α:Type}(l:List α)(lo hi:Int):Option (List α):=
 bif decide (0<=lo)&&(decide (lo<=hi)&&decide (hi<=l.length))then some ((l.take hi.toNat).drop lo.toNat)else none
def cat? (a b:DL):Option DL:=bif decide (a.length+b.length<=281474976710656)then some (a++b)else none
def app? {α:Type}(B:Nat)(a b:List α):Option (List α):=bif decide ((a.length+b.length)*B<=70368744177664)then some (a++b)else none
def in? (n:Nat)(i:Int):Option Unit:=bif decide (0<=i)&&decide (i<n)then some ()else none
def div? (k:IntKind)(a b:Int):Option Int:=bif b==0 then none else some (k.wrap (a.tdiv b))
def mod? (a b:Int):Option Int:=bif b==0 then none else some (a.tmod b)
def FY(l:DL):List Int:=l.map λb=>(b.toNat:Int)
def IR(l:List Int):DL:=l.map λn=>UInt8.ofNat n.toNat
def I6(x y:Bool):Bool:=x==y
def DP(x y:Int):Bool:=x==y
def DQ(x y:DL):Bool:=x==y
def Ty.beq:(t:Ty)→t.T→t.T→Option Bool
 | .unit,_,_=>some true
 | .bool,x,y=>some (I6 x y)
 | .int _,x,y=>some (DP x y)
 | .str,x,y=>some (DQ x y)
 | .agg t,x,y=>Ty.beq t x y
 | .prod a b,x,y=>match Ty.beq a x.1 y.1,Ty.beq b x.2 y.2 with
  |some u,some v=>some (u&&v)
  |_,_=>none
 |_,_,_=>none
def DW{α β:Type}(eq:α->α->Bool)(k:α):List (α×β)->Option β
 |[]=>none
 |e::r=>bif eq k e.1 then some e.2 else DW eq k r
def EB{α β:Type}(eq:α->α->Bool)(k:α)(v:β):List (α×β)->List (α×β)
 |[]=>[(k,v)]
 |e::r=>bif eq k e.1 then(k,v)::r else e::EB eq k v r
def NM:(t:Ty)->Option (t.T->t.T->Bool)
 | .bool=>some I6
 | .int _=>some DP
 | .str=>some DQ
 |_=>none
def LI:(t:Ty)->Option (t.T->t.T->Bool)
 | .bool=>some I6
 | .int _=>some DP
 | .str=>some DQ
 | .agg p=>LI p
 | .prod a b=>match LI a,LI b with
  |some f,some g=>some λx y=>f x.1 y.1&&g x.2 y.2
  |_,_=>none
 |_=>none
def dK(ke:Bool):(t:Ty)->Option (t.T->t.T->Bool)
 | .agg p=>bif ke then LI p else none
 | .bool=>some I6
 | .int _=>some DP
 | .str=>some DQ
 |_=>none
def shl? (k:IntKind)(a b:Int):Option Int:=bif decide (b<0)then none else some (k.wrap (a*2 ^ min b.toNat k.bits))
def shr? (k:IntKind)(a b:Int):Option Int:=bif decide (b<0)then none else some (a.fdiv (2 ^ min b.toNat k.bits))
def rJ(op:BinOp)(k:IntKind)(a b:Int):Option OpRes:=
 match op with
 | .add=>some (.v (.val (.int k) (k.wrap (a+b))))
 | .sub=>some (.v (.val (.int k) (k.wrap (a-b))))
 | .mul=>some (.v (.val (.int k) (k.wrap (a*b))))
 | .quo=>some (.may Int (div? k a b) 0 λx=>⟨.val (.int k) x,[]⟩)
 | .rem=>some (.may Int (mod? a b) 0 λx=>⟨.val (.int k) x,[]⟩)
 | .eql=>some (.v (.val .bool (DP a b)))
 | .neq=>some (.v (.val .bool (!(DP a b))))
 | .lss=>some (.v (.val .bool (decide (a<b))))
 | .leq=>some (.v (.val .bool (decide (a<=b))))
 | .gtr=>some (.v (.val .bool (decide (b<a))))
 | .geq=>some (.v (.val .bool (decide (b<=a))))
 |_=>none
def rK(op:BinOp)(a b:DL):Option OpRes:=
 match op with
 | .add=>some (.may DL (cat? a b) [] λx=>⟨.val .str x,[]⟩)
 | .eql=>some (.v (.val .bool (DQ a b)))
 | .neq=>some (.v (.val .bool (!(DQ a b))))
 | .lss=>some (.v (.val .bool (Op.bytesLess a b)))
 | .leq=>some (.v (.val .bool (Op.bytesLess a b||DQ a b)))
 | .gtr=>some (.v (.val .bool (!(Op.bytesLess a b||DQ a b))))
 | .geq=>some (.v (.val .bool (!(Op.bytesLess a b))))
 |_=>none
def rL(op:BinOp)(x y:Bool):Option OpRes:=
 match op with
 | .eql=>some (.v (.val .bool (I6 x y)))
 | .neq=>some (.v (.val .bool (!(I6 x y))))
 |_=>none
def dL(op:BinOp):SV->SV->Option OpRes
 | .val (.int k) a,.val (.int l) b=>match op with
  | .shl=>some (.may Int (shl? k a b) 0 λx=>⟨.val (.int k) x,[]⟩)
  | .shr=>some (.may Int (shr? k a b) 0 λx=>⟨.val (.int k) x,[]⟩)
  |op=>bif OH k l then rJ op k a b else none
 | .val .str a,.val .str b=>rK op a b
 | .val .bool a,.val .bool b=>rL op a b
 |_,_=>none
def U_(op:BinOp)(b:Bool):Option OpRes:=match op with
 | .eql=>some (.v (.val .bool b))
 | .neq=>some (.v (.val .bool (!b)))
 |_=>none
def nilM? {α:Type}:Option (List α)->Option Bool
 |none=>some true
 |some []=>none
 |some (_::_)=>some false
def rM(op:BinOp)(t:Option Ty)(x y:SV):Option OpRes:=match t with
 |some (.slice _)=>match x,y with
  | .nns _ _,.nilS=>U_ op false
  | .mns _ x,.nilS=>match op with
   | .eql=>some (.may Bool (nilM? x) false λb=>⟨.val .bool b,[]⟩)
   | .neq=>some (.may Bool (nilM? x) false λb=>⟨.val .bool (!b),[]⟩)
   |_=>none
  | .nilS,.nilS=>U_ op true
  |_,_=>none
 |_=>none
def A1_:Ty->Bool
 | .agg _=>true
 |_=>false
def A1a(ty:Option Ty)(ok:Bool)(op:BinOp)(x y:SV):Option OpRes:=match ty with
 | some t=>bif ok&&A1_ t then (match x.as t,y.as t with
  |some u,some v=>match Ty.beq t u v with
   |some b=>U_ op b
   |none=>none
  |_,_=>none)else none
 |none=>none
def rN(op:UnOp):SV->Option OpRes
 | .val .bool b=>match op with| .not=>some (.v (.val .bool (!b)))|_=>none
 | .val (.int k) n=>match op with| .neg=>some (.v (.val (.int k) (k.wrap (0-(show Int from n)))))|_=>none
 |_=>none
def rP:SV->SV->SV->Option OpRes
 | .val .bool c,.val t x,.val u y=>match Ty.cast? u t y with
  |some z=>some (.v (.val t (bif c then x else z)))
  |none=>none
 |_,_,_=>none
def rQ(σ:SSo)(p:Ty)(i:Nat)(s:SV)(x:p.T):Option p.T:=
 bif Nat.blt i p.fields then (match p.sub (GK p.fields i) with
  |some u=>match s.asV σ u with
   |some y=>Ty.put p (GK p.fields i) x u y
   |none=>none
  |none=>none)else none
def Y4(σ:SSo)(p:Ty):List (Nat×SV)->p.T->Option p.T
 |[],x=>some x
 |q::r,x=>match rQ σ p q.1 q.2 x with
  |some y=>Y4 σ p r y
  |none=>none
def RK(σ:SSo)(e:Ty):List (Nat×SV)->List e.T->Option (List e.T)
 |[],xs=>some xs
 | q::r,xs=>bif Nat.blt q.1 xs.length then (match q.2.asV σ e with
  |some y=>RK σ e r (xs.set q.1 y)
  |none=>none)else none
def dM(σ:SSo)(t:Ty)(ps:List (Nat×SV)):Option OpRes:=
 match t with
 | .agg p=>(Y4 σ p ps p.dflt).map λx=>.v (.val (.agg p) x)
 | .arr n e=>(RK σ e ps (List.replicate n e.dflt)).map λx=>.v (.val (.arr n e) x)
 |_=>none
def rR(σ:SSo)(u:Ty):SV->Option SV
 | .nilS=>match u with
  | .slice _=>some .nilS
  |_=>none
 | .obj k g=>match QV σ k g u with
  |some x=>some (.val u x)
  |none=>match u with
   | .slice _=>some (.obj k g)
   | .map _ _=>some (.obj k g)
   |_=>none
 |s=>(s.asV σ u).map (.val u ·)
def rS(σ:SSo)(p:Ty)(i:Nat)(s c:SV):Option SV:=
 bif Nat.blt i p.fields then (match p.sub (GK p.fields i) with
  |some u=>match rR σ u s with
   |some l=>c.setAt (GK p.fields i) l
   |none=>none
  |none=>none)else none
def V0(σ:SSo)(p:Ty):List (Nat×SV)->SV->Option SV
 |[],c=>some c
 |q::r,c=>match rS σ p q.1 q.2 c with
  |some d=>V0 σ p r d
  |none=>none
def OK(id:Nat)(t:Ty)(x:t.T):(u:Ty)->Option u.T
 | .ialt j a r=>bif Nat.beq id j then(Ty.cast? t a x).map Sum.inl else(OK id t x r).map Sum.inr
 |_=>none
def loadAt(σ:SSo)(t:Ty):SV->Option SV
 | .ref u x=>(OI u t x).map (.val t ·)
 | .ptr k p _=>match σ k with
  |some (.box _ c _)=>match c.getAt p with
   | some (.obj j g)=>(match t with
    | .slice _=>some (.obj j g)
    | .map _ _=>some (.obj j g)
    |_=>none)
   | some (.ptr j q u)=>(match t with
    | .ptr _=>some (.ptr j q u)
    |_=>none)
   | some (.mns e x)=>(match t with
    | .slice _=>some (.mns e x)
    |_=>none)
   | some (.fn f caps)=>(match t with
    | .fnc _ _=>some (.fn f caps)
    |_=>none)
   |some s=>(s.asC σ t).map (.val t ·)
   |none=>none
  |_=>none
 | .ptri k p i q _=>match σ k with
  |some (.box _ c _)=>match c.getAt p with
   |some (.val (.arr _ e) xs)=>match Ty.at e q ((show List e.T from xs).getD i e.dflt)with
    |some ⟨u,y⟩=>(OI u t y).map (.val t ·)
    |none=>none
   |_=>none
  |_=>none
 | .elem k g i q _=>match σ k with
  | some (.sl _ e xs g' true)=>bif Nat.beq g g' then (match Ty.at e q (xs.getD i e.dflt) with
   |some ⟨u,y⟩=>(OI u t y).map (.val t ·)
   |none=>none)else none
  | some (.dp [_] e xs _ none true)=>bif Nat.beq g 0 then (match Ty.at e q ((show List e.T from xs).getD i e.dflt) with
   |some ⟨u,y⟩=>(OI u t y).map (.val t ·)
   |none=>none)else none
  | some (.dp (_::id2::r) e xs _ _ true)=>(match q,t with
   |[],.slice _=>bif Nat.beq g 0 then some (.lnS ((show List (List (E2 r e).T)from xs).getD i []).length)else none
   |_,_=>none)
  |_=>none
 |_=>none
def H4:Ty->SV
 | .prod a b=>.pr (H4 a) (H4 b)
 | .slice _=>.nilS
 | .agg (.prod a b)=>.pr (H4 a) (H4 b)
 |t=>.val t t.dflt
def V1(t:Ty):SV->Option SV
 | .obj k g=>(match t with
  | .slice _=>some (.obj k g)
  | .map _ _=>some (.obj k g)
  |_=>none)
 | .ptr k p u=>(match t with
  | .ptr _=>some (.ptr k p u)
  |_=>none)
 | .bt u c=>bif u.same t then some c else none
 | .fn f caps=>(match t with
  | .fnc _ _=>some (.fn f caps)
  |_=>none)
 | .nns e x=>(match t with
  | .slice _=>some (.nns e x)
  |_=>none)
 | .nilS=>(match t with
  | .slice _=>some .nilS
  |_=>none)
 |s=>(s.as t).map (.val t ·)
def A1b(c:SV)(p:List Bool)(n:Nat)(e:Ty)(xs:List e.T)(i:Nat)(z:e.T):Option SV:=c.setAt p (.val (.arr n e) (xs.set i z))
def V2(σ:SSo)(t:Ty):SV->Option SV
 | .ptr k p u=>match t with
  | .agg (.prod a b)=>bif u.bare.same (.prod a b) then (match σ k with
   |some (.box _ c _)=>match c.getAt p with
    |some s=>some (.bt (.agg (.prod a b)) s)
    |none=>none
   |_=>none)else none
  |_=>none
 |_=>none
def Y5(σ:SSo)(t:Ty)(ps:List (Nat×SV)):Option OpRes:=
 match t with
 | .agg (.prod a b)=>(V0 σ (.prod a b) ps (H4 (.prod a b))).map λc=>.v (.bt (.agg (.prod a b)) c)
 |_=>none
def storeAt(σ:SSo)(t:Ty)(v:SV):SV->Option (Nat×Obj)
 | .ptr k p u=>if u.bare.same t.bare=true then (match σ k with
  |some (.box b c true)=>match V1 t v with
   |some s=>(c.setAt p s).map λc'=>(k,.box b c' true)
   |none=>none
  |_=>none)else none
 | .ptri k p i q _=>match σ k with
  |some (.box b c true)=>match c.getAt p with
   |some (.val (.arr n e) xs)=>match v.as t with
    |some y=>match Ty.put e q ((show List e.T from xs).getD i e.dflt) t y with
     |some z=>(A1b c p n e xs i z).map λc'=>(k,.box b c' true)
     |none=>none
    |none=>none
   |_=>none
  |_=>none
 | .elem k g i q _=>match σ k with
  | some (.sl id e xs g' true)=>bif Nat.beq g g' then (match v.asV σ t with
   |some y=>match Ty.put e q (xs.getD i e.dflt) t y with
    |some z=>some (k,.sl id e (xs.set i z) g true)
    |none=>none
   |none=>none)else none
  | some (.dp [id] e xs gk none true)=>bif Nat.beq g 0 then (match v.asV σ t with
   |some y=>match Ty.put e q ((show List e.T from xs).getD i e.dflt) t y with
    |some z=>some (k,.dp [id] e ((show List e.T from xs).set i z) gk none true)
    |none=>none
   |none=>none)else none
  |_=>none
 |_=>none
def Y6(t:Ty):Bool:=bif Nat.beq t.fields 1 then t.bare.same t else true
def NN(t:Ty)(f:Nat)(s:SV):Option SV:=
 bif Y6 t then (match s with
  | .ptr k p u=>if u.bare.same t=true then(t.sub (GK t.fields f)).map λv=>.ptr k (p++GK t.fields f) v else none
  | .ptri k p i q u=>if u.bare.same t=true then(t.sub (GK t.fields f)).map λv=>.ptri k p i (q++GK t.fields f) v else none
  | .elem k g i q u=>if u.bare.same t=true then(t.sub (GK t.fields f)).map λv=>.elem k g i (q++GK t.fields f) v else none
  | .ref u x=>match NK u t x with
   |some y=>match Ty.at t (GK t.fields f) y with
    |some ⟨v,z⟩=>some (.ref v z)
    |none=>none
   |none=>none
  |_=>none)else none
def Y7(e:Ty)(xs:List e.T)(i:Int):OpRes:=.may e.T (at? xs i) e.dflt λx=>⟨.ref e x,[]⟩
def rT(σ:SSo)(t:Ty)(i:Int)(s:SV):Option OpRes:=
 match t with
 | .slice e=>match s with
  | .obj k g=>match σ k with
   | some (.sl _ e' xs g' w)=>bif Nat.beq g g'&&e'.same e then (bif w then some (.may Unit (in? xs.length i) () λ_=>⟨.elem k g i.toNat [] e',[]⟩)
    else some (Y7 e' xs i))else none
   | some (.dp (id::r) t' xs gk h w)=>bif Nat.beq g 0&&(E2 r t').same e then (bif w then some (.may Unit (in? (show List (E2 r t').T from xs).length i) () λ_=>⟨.elem k g i.toNat [] (E2 r t'),[]⟩)
    else some (Y7 (E2 r t') xs i))else none
   |_=>none
  |s=>match s.as (.slice e)with
   |some xs=>some (Y7 e xs i)
   |none=>none
 | .arr n e=>match QX σ s with
  | .ptr k p u=>bif u.same (.arr n e)then some (.may Unit (in? n i) () λ_=>⟨.ptri k p i.toNat [] e,[]⟩)else none
  | .ref u x=>match Ty.cast? u (.arr n e) x with
   |some xs=>some (Y7 e xs i)
   |none=>none
  |_=>none
 |_=>none
def A1c(s:DL)(i:Int):OpRes:=.may UInt8 (at? s i) 0 λb=>⟨.val (.int .u8) (b.toNat:Int),[]⟩
def A1d(e:Ty)(xs:List e.T)(i:Int):OpRes:=.may e.T (at? xs i) e.dflt λx=>⟨.val e x,[]⟩
def rU(t:Ty)(i:Int)(s:SV):Option OpRes:=
 match t with
 | .str=>match s with
  | .val .str s=>some (A1c s i)
  |_=>none
 | .arr n e=>match s with
  | .val u x=>match Ty.cast? u (.arr n e) x with
   |some xs=>some (A1d e xs i)
   |none=>none
  |_=>none
 |_=>none
def Y8(n:Nat):OpRes:=.v (.val (.int .i64) (n:Int))
def AEx(s:DL):OpRes:=Y8 s.length
def rV(e:Ty)(xs:List e.T):OpRes:=Y8 xs.length
def len? (n:Nat):Option Int:=bif Nat.ble n 281474976710656 then some (n:Int)else none
def A1e(n:Nat):OpRes:=.may Int (len? n) 0 λk=>⟨.val (.int .i64) k,[]⟩
def A1f(a b:Ty)(es:List (a.T×b.T)):OpRes:=A1e es.length
def rW(σ:Nat→Option Obj)(t:Ty)(s:SV):Option OpRes:=
 match t with
 | .str=>match s with
  | .val .str s=>some (AEx s)
  |_=>none
 | .arr n _=>bif Nat.ble n 281474976710656 then some (Y8 n)else none
 | .slice e=>match s with
  | .obj k g=>match σ k with
   |some (.sl _ e' xs g' _)=>bif Nat.beq g g' then some (rV e' xs)else none
   |some (.dp (id::r) t' xs gk h w)=>bif Nat.beq g 0 then some (rV (E2 r t') xs)else none
   |_=>none
  | .lnS n=>some (Y8 n)
  |s=>match s.as (.slice e)with
   |some xs=>some (rV e xs)
   |none=>none
 | .map a b=>match s with
  | .obj k g=>match σ k with
   |some (.mp a' b' es _)=>bif Nat.beq g 0 then some (A1f a' b' es)else none
   |_=>none
  | .val u x=>match Ty.cast? u (.map a b) x with
   |some es=>some (A1f a b es)
   |none=>none
  |_=>none
 |_=>none
def RL(sl:Option SV)(d:Int):Option Int:=match sl with
 |some (.val (.int _) n)=>some n
 |none=>some d
 |_=>none
def rX(s:DL)(lo hi:Option SV):Option OpRes:=match RL lo 0,RL hi s.length with
 |some l,some h=>some (.may DL (cut? s l h) [] λy=>⟨.val .str y,[]⟩)
 |_,_=>none
def V3(e:Ty)(xs:List e.T)(lo hi:Option SV):Option OpRes:=match RL lo 0,RL hi xs.length with
 |some l,some h=>some (.may (List e.T) (cut? xs l h) [] λy=>⟨.val (.slice e) y,[]⟩)
 |_,_=>none
def rY(σ:SSo)(t:Ty)(x:SV)(lo hi:Option SV):Option OpRes:=
 match t with
 | .str=>match x with
  | .val .str s=>rX s lo hi
  |_=>none
 | .slice e=>match x.asV σ (.slice e)with
  |some xs=>V3 e xs lo hi
  |none=>none
 |_=>none
def dN(σ:SSo)(t:Ty)(x:SV)(lo hi:Option SV):Option OpRes:=
 match t with
 | .arr n e=>match QX σ x with
  | .ref u y=>match Ty.cast? u (.arr n e) y with
   |some xs=>bif Nat.ble n 281474976710656 then V3 e xs lo hi else none
   |none=>none
  |_=>none
 |t=>rY σ t x lo hi
def rZ:SV->Nat->Option OpRes
 | .tup l,i=>match l.list[i]? with
  |some s=>some (.v s)
  |none=>none
 |_,_=>none
def Y9(ke:Bool)(k v:Ty)(ok:Bool)(key:SV)(es:List (k.T×v.T)):Option OpRes:=match dK ke k,key.as k with
 |some eq,some x=>some (.v (bif ok then .tup (.scons (.val v ((DW eq x es).getD v.dflt)) (.scons (.val .bool (DW eq x es).isSome) .snil))else .val v ((DW eq x es).getD v.dflt)))
 |_,_=>none
def dO(σ:SSo)(ke:Bool)(t:Ty)(ok:Bool)(m key:SV):Option OpRes:=
 match t with
 | .map k v=>match m with
  | .val u es=>match Ty.cast? u (.map k v) es with
   |some es=>Y9 ke k v ok key es
   |none=>none
  | .obj j g=>match σ j with
   |some (.mp k' v' es _)=>bif Nat.beq g 0&&(k'.same k&&v'.same v)then Y9 ke k' v' ok key es else none
   |some (.mg _ k' t' es _ _)=>bif Nat.beq g 0&&(k'.same k&&(Ty.slice t').same v)then Y9 ke k' (.slice t') ok key es else none
   |_=>none
  |_=>none
 |_=>none
def dP(σ:SSo)(self:Nat)(t:Ty)(m key:SV):Option OpRes:=
 match t with
 | .map k v=>match m with
  | .obj j g=>match σ j with
   | some (.mg id k' t' es none _)=>bif Nat.beq g 0&&(k'.same k&&(Ty.slice t').same v) then (match NM k',key.as k' with
    |some eq,some a=>some (.pure ⟨.obj self 0,[(self,some (.sl id t' ((DW eq a es).getD []) 0 false)),(j,some (.mg id k' t' es (some a) (self+1)))]⟩)
    |_,_=>none)else none
   |_=>none
  |_=>none
 |_=>none
def r_(σ:SSo)(self:Nat)(t:Ty)(m key x:SV):Option OpRes:=
 match t with
 | .map k v=>match m,x with
  | .obj j g,.obj i h=>match σ j,σ i with
   |some (.mg id k' t' es tk _),some (.sl id2 t2 xs h2 false)=>
    bif Nat.beq g 0&&((k'.same k&&(Ty.slice t').same v)&&(Nat.beq h 0&&(Nat.beq h2 0&&(Nat.beq id id2 && !(Nat.beq i j))))) then (match NM k',key.as k',Ty.cast? (.slice t2) (.slice t') xs with
     |some eq,some a,some ys=>match tk with
      |none=>some (.pure ⟨.undef,[(j,some (.mg id k' t' (EB eq a ys es) none (self+1))),(i,none)]⟩)
      |some q=>some (.may Unit (bif eq q a then some ()else none) () λ_=>⟨.undef,[(j,some (.mg id k' t' (EB eq a ys es) none (self+1))),(i,none)]⟩)
     |_,_,_=>none)else none
   |_,_=>none
  |_,_=>none
 |_=>none
def A1g(el self:Nat)(k:Ty):Ty->Option OpRes
 | .slice e=>some (.pure ⟨.obj self 0,[(self,some (.mg el k e [] none (self+1)))]⟩)
 |_=>none
def A1h(σ:SSo):SV->Bool
 | .obj j _=>match σ j with
  |some (.mg _ _ _ _ _ _)=>true
  |_=>false
 |_=>false
def A1i(σ:SSo)(self:Nat)(t:Ty)(m:SV):Option OpRes:=
 match t with
 | .map k v=>match m.asV σ (.map k v)with
  |some es=>some (.pure ⟨.obj self 0,[(self,some (.it k v es))]⟩)
  |none=>none
 |_=>none
def dQ(σ:SSo)(ke:Bool)(t:Ty)(m key x:SV):Option OpRes:=
 match t with
 | .map k v=>match m with
  | .obj j g=>match σ j with
   | some (.mp k' v' es true)=>bif Nat.beq g 0&&(k'.same k&&v'.same v) then (match dK ke k',key.as k',x.asV σ v' with
    |some eq,some a,some b=>some (.pure ⟨.undef,[(j,some (.mp k' v' (EB eq a b es) true))]⟩)
    |_,_,_=>none)else none
   |_=>none
  |_=>none
 |_=>none
def YA(σ:SSo)(w:Bool)(self id:Nat)(t:Ty)(s x:SV):Option OpRes:=
 match t with
 | .slice e=>match x.asV σ (.slice e)with
  |some ys=>match s with
   | .nilS=>some (.may (List e.T) (app? (24*e.sz) [] ys) [] λzs=>⟨.obj self 0,[(self,some (.sl id e zs 0 w))]⟩)
   | .obj k g=>match σ k with
    | some (.sl id' e' xs g' w')=>bif Nat.beq g 0&&(Nat.beq g' 0&&Nat.beq id id') then (match Ty.cast? (.slice e') (.slice e) xs with
     |some xs=>some (.may (List e.T) (app? (24*e.sz) xs ys) [] λzs=>⟨.obj self 0,[(self,some (.sl id e zs 0 w')),(k,none)]⟩)
     |none=>none)else none
    |_=>none
   |_=>none
  |none=>none
 |_=>none
def dR(σ:SSo)(self id:Nat)(t:Ty)(s x:SV):Option OpRes:=
 match t,s with
 | .slice e,.obj k g=>match σ k with
  | some (.dp [id'] e' xs _ none true)=>bif Nat.beq g 0&&(Nat.beq id id'&&e'.same e) then (match x.asV σ (.slice e') with
   |some ys=>some (.may (List e'.T) (app? (24*e'.sz) (show List e'.T from xs) ys) [] λzs=>⟨.obj self 0,[(self,some (.dp [id'] e' zs (self+1) none true)),(k,none)]⟩)
   |none=>none)else none
  |_=>none
 |_,_=>none
def dS(σ:SSo)(n:Nat)(p c:SV):Option (List (Nat×Option Obj)):=match p,c with
 | .elem k _ _ _ _,.obj j _=>match σ k with
  | some (.dp (id::id2::r) e xs gk (some [i]) true)=>bif Nat.beq gk (j+2) then (match σ j with
   | some (.dp ids e' y _ none true)=>bif PP ids (id2::r) then (match Ty.cast? (E2 ids e') (E2 (id2::r) e) y with
    |some y=>some [(k,some (.dp (id::id2::r) e ((show List (E2 (id2::r) e).T from xs).set i y) n none true)),(j,none)]
    |none=>none)else none
   |_=>none)else none
  |_=>none
 |_,_=>none
def dT(self k id:Nat)(e:Ty)(xs:List e.T)(lo hi:Option SV):Option OpRes:=match RL lo 0,RL hi xs.length with
 |some l,some h=>some (.may (List e.T) (cut? xs l h) [] λy=>⟨.obj self 0,[(self,some (.dp [id] e y (self+1) none true)),(k,none)]⟩)
 |_,_=>none
def YB(σ:SSo)(self:Nat)(t:Ty)(x:SV)(lo hi:Option SV):Option OpRes:=
 match t,x with
 | .slice e,.obj k g=>match σ k with
  |some (.dp [id] e' xs _ none true)=>bif Nat.beq g 0&&e'.same e then dT self k id e' xs lo hi else none
  |some (.sl id e' xs g' true)=>bif Nat.beq g 0&&(Nat.beq g' 0&&e'.same e)then dT self k id e' xs lo hi else none
  |_=>none
 |_,_=>none
def YC(σ:Nat→Option Obj)(self:Nat)(t:Ty)(a:SV):Option OpRes:=match a with
 | .elem k g i [] _=>match σ k with
  |some (.dp (id::id2::r) e xs gk none true)=>bif Nat.beq g 0&&(E2 (id2::r) e).same t then
   some (.pure ⟨.obj self 0,[(self,some (.dp (id2::r) e ((show List (E2 (id2::r) e).T from xs).getD i (E2 (id2::r) e).dflt) (self+1) none true)),(k,some (.dp (id::id2::r) e xs (self+2) (some [i]) true))]⟩)else none
  |_=>none
 |_=>none
def sA(i:Nat):Option (List Nat)->Bool
 |none=>true
 |some [j]=>Nat.beq j i
 |some _=>false
def dU(σ:Nat→Option Obj)(self:Nat)(t:Ty)(v a:SV):Option OpRes:=match a with
 | .elem k g i [] _=>match σ k with
  | some (.dp (id::id2::r) e xs gk h true)=>bif Nat.beq g 0&&((E2 (id2::r) e).same t && !(EW k (GP v))) then (match QY σ (id2::r) e v with
   |some y=>some (.may Unit (bif sA i h then some ()else none) () λ_=>⟨.undef,(k,some (.dp (id::id2::r) e ((show List (E2 (id2::r) e).T from xs).set i y) (self+1) none true))::gone (GP v)⟩)
   |none=>none)else none
  |_=>none
 |_=>none
def T3(el:Nat→Nat):Nat→Nat→List Nat
 |0,_=>[]
 |n+1,t=>el t::T3 el n (el t)
def A1j:Nat->Ty->Option Ty
 |0,t=>some t
 |n+1,.slice t=>A1j n t
 |_,_=>none
def sB(σ:SSo)(w:Bool)(self id:Nat)(t t':Ty)(s x:SV):Option OpRes:=
 match t,t',x with
 | .slice (.int .u8),.str,.val .str ys=>YA σ w self id (.slice (.int .u8)) s (.val (.slice (.int .u8)) (FY ys))
 |_,_,_=>none
def YD(a b:Int):Int:=bif decide (b<a)then b else a
def YE(a b:Int):Int:=bif decide (a<b)then b else a
def IJ:(ps:List Sh)->List SV->List Mk->List (Nat×Option Obj)
 | .box _::ps,.ptr k _ _::vs,m::ms=>(match m.obs with|(_,o)::r=>(k,o)::r|[]=>[])++IJ ps vs ms
 | .io _ _::ps,.obj k _::vs,m::ms=>(match m.obs with|(_,o)::r=>(k,o)::r|[]=>[])++IJ ps vs ms
 | .io _ _::ps,_::vs,_::ms=>IJ ps vs ms
 | .bld _ false::ps,.ptr k _ _::vs,m::ms=>(match m.obs with|(_,some (.box t (.pr _ y) w))::r=>(k,some (.box t (.pr (.slf k) y) w))::r|_=>[])++IJ ps vs ms
 |_::ps,_::vs,ms=>IJ ps vs ms
 |_,_,_=>[]
def Ty.lit:Ty->Bool
 | .bool=>true
 | .int _=>true
 | .str=>true
 |_=>false
def YF(σ:SSo)(k g:Nat)(t:Ty):Option t.T:=
 match σ k with
 |some (.sl _ e xs g' _)=>if Nat.beq g g' then Ty.cast? (.slice e) t xs else none
 |some (.mp a b es _)=>if Nat.beq g 0 then Ty.cast? (.map a b) t es else none
 |some (.dp (i::r) e x _ h w)=>if Nat.beq g 0&&(!w||h.isNone)then Ty.cast? (E2 (i::r) e) t x else none
 |_=>none
def SV.asLR(σ:SSo)(t:Ty):SV->Option t.T
 | .obj k g=>YF σ k g t
 |s=>s.asC σ t
def SV.asCR(σ:SSo):(t:Ty)->SV->Option t.T
 | .prod a b=>λs=>match s with
  | .pr x y=>match SV.asCR σ a x,SV.asCR σ b y with
   |some u,some v=>some (u,v)
   |_,_=>none
  |s=>s.asC σ (.prod a b)
 | .agg p=>λs=>match s with
  | .val u x=>NK u p x
  |s=>SV.asCR σ p s
 | .unit=>SV.asLR σ .unit
 | .bool=>SV.asLR σ .bool
 | .int k=>SV.asLR σ (.int k)
 | .str=>SV.asLR σ .str
 | .slice e=>SV.asLR σ (.slice e)
 | .arr n e=>SV.asLR σ (.arr n e)
 | .ptr e=>SV.asLR σ (.ptr e)
 | .map k v=>SV.asLR σ (.map k v)
 | .inil=>SV.asLR σ .inil
 | .ialt i t r=>SV.asLR σ (.ialt i t r)
 | .self=>SV.asLR σ .self
 | .opq=>SV.asLR σ .opq
 | .fnc d c=>SV.asLR σ (.fnc d c)
def dV(σ:SSo)(t:Ty)(v:SV):Option t.T:=match t,v with
 | .ptr e,.ptr k [] _=>match σ k with
  |some (.box t' c true)=>bif t'.same e.bare then(c.asCR σ e).map some else none
  |_=>none
 |t,.obj k g=>YF σ k g t
 |t,.bt u c=>bif u.same t then c.asCR σ t else none
 |t,v=>v.asV σ t
def sC(σ:SSo)(t:Ty)(s:SV):Option t.T:=match dV σ t s with
 |some x=>some x
 |none=>UT σ t s
def dW(σ:SSo):(l:List Sh)->List SV->Option (TupR l)
 |[],[]=>some ()
 | .val t::r,s::w=>match sC σ t s,dW σ r w with
  |some x,some y=>some (S_ (.val t) r x y)
  |_,_=>none
 |_,_=>none
def YG(σ:SSo)(cs:List SV):Nat->(ps:List Sh)->(d:Ty)->d.T->Option (TupR ps)
 |0,.val t::r,d,x=>bif MU d then none else match Ty.cast? d t x,dW σ r cs with
  |some u,some v=>some (S_ (.val t) r u v)
  |_,_=>none
 |n+1,.val t::r,.prod p q,x=>match Ty.cast? p t x.1,YG σ cs n r q x.2 with
  |some u,some v=>some (S_ (.val t) r u v)
  |_,_=>none
 |_,_,_,_=>none
def dX(fs:Nat->Option FSpec)(σ:SSo)(d c:Ty):SV->Option (d.T->Option c.T)
 | .fn f caps=>match fs f with
  |some sp=>bif PM caps&&US sp.ps then some (λx=>(YG σ caps.list (XU d) sp.ps d x).bind λv=>(sp.F v).bind λr=>SZ _ c r)else none
  |_=>none
 |_=>none
def dY(fs:Nat->Option FSpec)(σ0 σ:SSo):(s:Sh)->SV->Option s.T
 | .val t,v=>dV σ0 t v
 | .own id t w,v=>LG σ id t w v
 | .hof nd d c,v=>bif nd then none else dX fs σ0 d c v
 |_,_=>none
def V4(fs:Nat->Option FSpec)(σ0 σ:SSo):(l:List Sh)->List SV->Option (TupR l)
 |[],[]=>some ()
 |[a],[v]=>dY fs σ0 σ a v
 |a::b::r,v::w=>match dY fs σ0 σ a v,V4 fs σ0 σ (b::r) w with
  |some x,some y=>some (x,y)
  |_,_=>none
 |_,_=>none
def YH:List Sh->Bool
 |[]=>true
 |a::r=>!(EU a)&&YH r
def NO:List Sh->Bool
 |[]=>true
 | .val t::r=>t.lit&&NO r
 | .own _ t w::r=>w&&(t.lit&&NO r)
 |_=>false
def A1k(fs:Nat->Option FSpec)(σ:SSo)(sp:FSpec)(args:List SV):Option (TupR sp.ps):=
 bif NO sp.rs&&(YH sp.ps&&(Nat.ble (GG (sp.rs++sp.ps.filter EU)) 8&&LH (GL σ sp.ps args)))then V4 fs (EF σ (gone (GL σ sp.ps args))) σ sp.ps args else none
def sD(σ:SSo)(self:Nat)(sp:FSpec)(args:List SV)(r:TupR (sp.rs++sp.ps.filter EU)):Upd:=
 let l:=FE (sp.rs++sp.ps.filter EU) r self
 let k:=sp.rs.length
 let rs:=l.take k
 ⟨match rs with
  |[m]=>m.sv
  |_=>.tup (SV.ofList (rs.map (·.sv))),rs.flatMap (·.obs)++(IJ sp.ps args (l.drop k)++gone (GL σ sp.ps args))⟩
def sE(fs:Nat->Option FSpec)(σ:SSo)(self:Nat)(f:Nat)(args:List SV):Option OpRes:=
 match fs f with
 |some sp=>match bif Nat.ble (GG (sp.rs++sp.ps.filter EU)) 8 then R0 fs σ sp.ps args else none with
  |some v=>some (.may (TupR (sp.rs++sp.ps.filter EU)) (sp.F v) (TupR.dflt _) (sD σ self sp args))
  |none=>match A1k fs σ sp args with
   |some v=>some (.may (TupR (sp.rs++sp.ps.filter EU)) (sp.F v) (TupR.dflt _) (sD σ self sp args))
   |none=>none
 |none=>none
def YI(σ:SSo):(d:Ty)->List SV->Option d.T
 | .prod a b,s::r=>match s.asV σ a,YI σ b r with
  |some x,some y=>some (x,y)
  |_,_=>none
 |t,[s]=>s.asV σ t
 |_,_=>none
def sF(dr:Bool)(fs:Nat->Option FSpec)(σ:SSo)(self:Nat)(fv:SV)(args:List SV):Option OpRes:=
 match fv with
 | .fn f caps=>bif PM caps then sE fs σ self f (args++caps.list)else none
 | .hof nd d c F=>match(bif !dr||nd then YI σ d args else none)with
  |some x=>some (.may c.T (F x) c.dflt λy=>⟨cW c y,[]⟩)
  |none=>none
 | .val (.fnc d c) y=>match(bif !dr then YI σ d args else none)with
  |some x=>some (.may c.T (Option.bind (show Option (d.T->Option c.T)from y) λF=>F x) c.dflt λy=>⟨cW c y,[]⟩)
  |none=>none
 |_=>none
def dZ(fs:Nat->Option FSpec)(mt:Nat->Option Nat)(c:Ty):(u:Ty)->Option (u.T->Option c.T)
 | .inil=>some λ_=>none
 | .ialt id t r=>match mt id with
  |some f=>bif MU t then none else match PO false fs (λ_=>none) t c (.fn f .snil),dZ fs mt c r with
   |some F,some G=>some λx=>Sum.casesOn (motive:=λ_=>Option c.T) (show Sum t.T r.T from x) F G
   |_,_=>none
  |none=>none
 |_=>none
def sG(fs:Nat->Option FSpec)(mt:String->Nat->Option Nat)(c:Ty)(m:String):SV->Option OpRes
 | .val u x=>match dZ fs (mt m) c u with
  |some F=>some (.may c.T (F x) c.dflt λy=>⟨cW c y,[]⟩)
  |none=>none
 |_=>none
def SV.unagg:SV->SV
 | .val (.agg p) x=>.val p (show p.T from x)
 |s=>s
def sH(t:Ty):SV->Option OpRes
 | .val (.int _) n=>match t with
  | .int k=>some (.v (.val (.int k) (k.wrap (show Int from n))))
  |_=>none
 | .val .str s=>match t with
  | .str=>some (.v (.val .str s))
  |_=>none
 |_=>none
def V5(n:Int):List UInt8:=(Utf8.encode n).data.toList
def sI(σ:SSo)(st t:Ty)(x:SV):Option OpRes:=
 match t with
 | .slice (.int .u8)=>match x with
  | .val .str s=>some (.v (.val (.slice (.int .u8)) (FY s)))
  |_=>none
 | .str=>match x with
  | .val .str s=>some (.v (.val .str s))
  | .val (.int _) n=>some (.v (.val .str (V5 (show Int from n))))
  |s=>match bif st.same (.slice (.int .u8))then s.asV σ (.slice (.int .u8))else none with
   |some xs=>some (.may DL (cat? [] (IR xs)) [] λy=>⟨.val .str y,[]⟩)
   |none=>none
 |t=>sH t x
def sJ(self el:Nat)(t:Ty)(x:SV):Option OpRes:=
 match t,x with
 | .slice (.int .u8),.val .str s=>some (.pure ⟨.obj self 0,[(self,some (.sl el (.int .u8) (FY s) 0 true))]⟩)
 |_,_=>none
def mks? {α:Type}(B:Nat)(l c:Int)(z:α):Option (List α):=
 bif decide (0<=l)&&(decide (l<=c)&&decide (c.toNat*B<=70368744177664))then some (List.replicate l.toNat z)else none
def V6(self n:Nat)(ids:List Nat)(t:Ty)(a b:Int):Option OpRes:=match ids with
 |id::id2::r=>match A1j n t with
  |some u=>bif (E2 (id::id2::r) u).same t then
   some (.may (List (E2 (id2::r) u).T) (mks? 24 a b (E2 (id2::r) u).dflt) [] λzs=>⟨.obj self 0,[(self,some (.dp (id::id2::r) u zs (self+1) none true))]⟩)else none
  |none=>none
 |_=>none
def sK(σ:SSo)(t:Ty)(s:SV):Option OpRes:=match s with
 | .val (.ptr e) y=>bif e.same t then some (.may e.T (show Option e.T from y) e.dflt λz=>⟨.val e z,[]⟩)else none
 |s=>(loadAt σ t s).map .v
def sL(ty:Ty)(i:Nat):Option Ty:=match ty with
 | .agg p=>p.sub (GK p.fields i)
 | .arr _ e=>some e
 |_=>none
def YJ(fs:Nat->Option FSpec)(σ:SSo)(t:Option Ty)(s:SV):SV:=match t,s with
 |some (.fnc d c),.fn f cs=>match PO false fs σ d c (.fn f cs)with
  |some F=>.val (.fnc d c) (some F:Option (d.T->Option c.T))
  |none=>.fn f cs
 |_,s=>s
def V7(E:Env)(t:Nat)(ty:Ty):Bool:=match ty with
 | .map k _=>E.eq (E.ky t)&&(match E.ty (E.ky t)with|some k'=>k'.same k|none=>false)
 |_=>false
def sM(E:Env)(ρ:Operand->SV)(ρt ρf:Operand->SV)(σ:SSo)(self:Nat)(o:Oper):Option OpRes:=
 let wf:Bool:=match o.dst with|some d=>E.wr d|none=>false
 let dd:Nat:=match o.dst with|some d=>E.dp d|none=>0
 match o.op with
 | .move x=>some (.v (ρ x))
 | .assign x=>some (.v (ρ x))
 | .pick c a b=>rP (ρ c) (ρt a) (ρf b)
 | .alloc t=>match E.ty t with
  |some ty=>some (.pure ⟨.ptr self [] ty.bare,[(self,some (.box ty.bare (H4 ty.bare) true))]⟩)
  |none=>none
 | .box t v=>match E.ty t with
  |some ty=>match V1 ty (ρ v)with
   |some c=>some (.pure ⟨.ptr self [] ty.bare,[(self,some (.box ty.bare c.unagg true))]⟩)
   |none=>none
  |none=>none
 | .build t ps=>match E.ty t with
  |some ty=>bif wf then Y5 σ ty (ps.toList.map λp=>(p.1,ρ p.2))else dM σ ty (ps.toList.map λp=>(p.1,YJ E.fs σ (sL ty p.1) (ρ p.2)))
  |none=>none
 | .buildSlice t len ps=>match E.ty t with
  |some (.slice e)=>match bif Nat.beq len 0 then(match ps.toList with|[]=>some ([]:List e.T)|_=>none)else bif Nat.ble (len*e.sz) 16777216 then RK σ e (ps.toList.map λp=>(p.1,ρ p.2)) (List.replicate len e.dflt)else none with
   |some xs=>some (.pure ⟨.obj self 0,[(self,some (.sl (E.el t) e xs 0 wf))]⟩)
   |none=>none
  |_=>none
 | .insert t m k v=>match E.ty t with
  |some ty=>dQ σ (V7 E t ty) ty (ρ m) (ρ k) (ρ v)
  |none=>none
 | .mapUpdate t m k v=>match E.ty t with
  |some ty=>bif A1h σ (ρ m)then r_ σ self ty (ρ m) (ρ k) (ρ v)else dQ σ (V7 E t ty) ty (ρ m) (ρ k) (ρ v)
  |none=>none
 | .load t a=>match E.ty t with
  | some ty=>bif wf then (match YC σ self ty (ρ a) with
   |some r=>some r
   |none=>(V2 σ ty (ρ a)).map .v)else sK σ ty (ρ a)
  |none=>none
 | .store t a v=>match E.ty t with
  | some ty=>(match dU σ self ty (ρ v) (ρ a) with
   |some r=>some r
   |none=>(storeAt σ ty (ρ v) (ρ a)).map λp=>.pure ⟨.undef,[(p.1,some p.2)]⟩)
  |none=>none
 | .nilCheck x=>match ρ x with
  | .ptr k p u=>some (.v (.ptr k p u))
  | .ptri k p i q u=>some (.v (.ptri k p i q u))
  | .ref t y=>some (.v (.ref t y))
  | .val (.ptr e) y=>some (.may e.T (show Option e.T from y) e.dflt λz=>⟨.ref e z,[]⟩)
  | .val (.fnc d c) y=>some (.may (d.T->Option c.T) (show Option (d.T->Option c.T)from y) (λ_=>none) λF=>⟨.hof false d c F,[]⟩)
  |_=>none
 | .binOp op t x y _=>match rM op (E.ty t) (ρ x) (ρ y)with
  |some r=>some r
  |none=>match A1a (E.ty t) (E.eq t) op (ρ x) (ρ y)with
  |some r=>some r
  |none=>bif (match ρ x with| .val .bool _=>(match E.ty t with|some .bool=>true|_=>false)|_=>true)then dL op (ρ x) (ρ y)else none
 | .unOp op _ x=>rN op (ρ x)
 | .convert st t x=>match E.ty st,E.ty t with
  |some sy,some ty=>bif wf then sJ self (E.el t) ty (ρ x)else sI σ sy ty (ρ x)
  |_,_=>none
 | .makeInterface t x=>match E.ty t,E.ty o.type with
  |some a,some u=>bif a.isIface then none else match(ρ x).asV σ a with
   |some y=>(OK t a y u).map λz=>.v (.val u z)
   |none=>none
  |_,_=>none
 | .makeFunc (.func f) first caps=>match first.toList with
  | []=>bif wf then (match E.ty o.type with
   |some (.fnc d c)=>(PO false E.fs σ d c (.fn f (SV.ofList (caps.toList.map ρ)))).map λF=>.v (.val (.fnc d c) (some F:Option (d.T->Option c.T)))
   |_=>none)else some (.v (.fn f (SV.ofList (caps.toList.map ρ))))
  |_=>none
 | .makeMap t h=>match E.ty t with
  |some (.map k v)=>bif (match h with|none=>true|some x=>(match ρ x with| .val (.int _) _=>true|_=>false))then(bif wf then A1g (E.el t) self k v else some (.pure ⟨.obj self 0,[(self,some (.mp k v [] true))]⟩))else none
  |_=>none
 | .range t m=>match E.ty t with
  |some ty=>A1i σ self ty (ρ m)
  |none=>none
 | .makeSlice t l c=>match E.ty t,ρ l,ρ c with
  |some (.slice e),.val (.int .i64) a,.val (.int .i64) b=>
   match V6 self dd (T3 E.el dd t) (.slice e) a b with
   |some r=>some r
   |none=>some (.may (List e.T) (mks? (24*e.sz) a b e.dflt) [] λzs=>⟨.obj self 0,[(self,some (.sl (E.el t) e zs 0 wf))]⟩)
  |_,_,_=>none
 | .slice t x lo hi none=>match E.ty t with
  | some ty=>(match bif wf then YB σ self ty (ρ x) (lo.map ρ) (hi.map ρ) else none with
   |some r=>some r
   |none=>dN σ ty (ρ x) (lo.map ρ) (hi.map ρ))
  |none=>none
 | .fieldAddr t x f=>match E.ty t with
  | some (.agg p)=>bif Nat.blt f p.fields then (match ρ x with
   | .val (.ptr e) y=>bif (NN p f (.ref e e.dflt)).isSome then some (.may e.T (show Option e.T from y) e.dflt λz=>⟨(NN p f (.ref e z)).getD .undef,[]⟩)else none
   |s=>(NN p f s).map .v)else none
  |_=>none
 | .indexAddr t x i=>match E.ty t,ρ i with
  |some ty,.val (.int _) n=>rT σ ty n (ρ x)
  |_,_=>none
 | .index t x i=>match E.ty t,ρ i with
  |some ty,.val (.int _) n=>rU ty n (ρ x)
  |_,_=>none
 | .lookup t m k ok=>match E.ty t with
  |some ty=>bif wf && !ok then dP σ self ty (ρ m) (ρ k)else dO σ (V7 E t ty) ty ok (ρ m) (ρ k)
  |none=>none
 | .extract x i=>rZ (ρ x) i
 | .call {callee:=.builtin b,args:=as,argTypes:=ts}=>match b,as.toList with
  | .len,[x]=>match ts.toList with
   |[t]=>match E.ty t with
    |some ty=>rW σ ty (ρ x)
    |none=>none
   |_=>none
  | .append,[s,x]=>match ts.toList with
   | [t,t']=>bif Nat.beq t t' then (match E.ty t with
    | some ty=>(match dR σ self (E.el t) ty (ρ s) (ρ x) with
     |some r=>some r
     |none=>YA σ wf self (E.el t) ty (ρ s) (ρ x))
    |none=>none)else(match E.ty t,E.ty t' with
    |some ty,some ty'=>sB σ wf self (E.el t) ty ty' (ρ s) (ρ x)
    |_,_=>none)
   |_=>none
  | .min,[x,y]=>match ρ x,ρ y with
   | .val (.int k) a,.val (.int l) c=>bif OH k l then some (.v (.val (.int k) (YD a c)))else none
   |_,_=>none
  | .max,[x,y]=>match ρ x,ρ y with
   | .val (.int k) a,.val (.int l) c=>bif OH k l then some (.v (.val (.int k) (YE a c)))else none
   |_,_=>none
  |_,_=>none
 | .call {callee:=.value f,args:=as,argTypes:=_}=>sF E.dr E.fs σ self (ρ f) (as.toList.map ρ)
 | .call {callee:=.invoke r m,args:=as,argTypes:=_}=>match as.toList,E.ty o.type with
  |[],some c=>sG E.fs E.mt c m (ρ r)
  |_,_=>none
 |_=>none
def hkP(σ:SSo)(s:SV):List Nat:=match s with
 | .ptr k p _=>match σ k with
  |some (.box _ c _)=>match c.getAt p with
   |some x=>Y1 σ x
   |none=>[]
  |_=>[]
 |_=>[]
def d_(E:Env)(ρ:Operand->SV)(σ:SSo)(o:Oper):List Nat:=match o.op with
 | .build _ ps=>bif (match o.dst with|some d=>E.wr d|none=>false)then []else ps.toList.flatMap λp=>hk σ (ρ p.2)
 | .buildSlice _ _ ps=>ps.toList.flatMap λp=>hk σ (ρ p.2)
 | .insert _ _ _ v=>hk σ (ρ v)
 | .mapUpdate _ _ _ v=>hk σ (ρ v)
 | .range _ m=>hk σ (ρ m)
 | .makeInterface _ x=>hk σ (ρ x)
 | .makeFunc _ _ caps=>bif (match o.dst with|some d=>E.wr d|none=>false)then(caps.toList.map ρ).flatMap (rF σ)else []
 | .convert _ _ x=>hk σ (ρ x)
 | .load t x=>match E.ty t with
  |some (.agg _)=>bif (match o.dst with|some d=>E.wr d|none=>false)then []else hkP σ (ρ x)
  |_=>[]
 | .indexAddr t x _=>match E.ty t with
  |some (.arr _ (.arr _ _))=>match ρ x with
   | .ptr k _ _=>match σ k with
    |some (.box _ _ true)=>[k]
    |_=>[]
   |_=>[]
  |_=>[]
 | .slice t x _ _ _=>match E.ty t with
  |some (.arr _ _)=>match ρ x with
   | .ptr k _ _=>match σ k with
    |some (.box _ _ true)=>[k]
    |_=>[]
   |_=>[]
  |_=>[]
 | .call {callee:=.builtin .append,args:=as,argTypes:=_}=>match as.toList with
  |[_,x]=>hk σ (ρ x)
  |_=>[]
 | .call {callee:=.value f,args:=as,argTypes:=_}=>match ρ f with
  | .fn n caps=>match E.fs n with
   |some sp=>bif (match o.dst with|some d=>Nat.beq (E.dp d) 9|none=>false)then []else bif (match o.dst with|some d=>E.wr d|none=>false)then rG σ sp.ps (as.toList.map ρ++caps.list)else rH σ sp.ps (as.toList.map ρ++caps.list)
   |none=>[]
  | .hof _ _ _ _=>as.toList.flatMap λx=>hk σ (ρ x)
  | .val (.fnc _ _) _=>as.toList.flatMap λx=>hk σ (ρ x)
  |_=>[]
 |_=>[]
def OpRes.also(fz:List (Nat×Option Obj)):OpRes->OpRes
 | .pure u=>.pure ⟨u.sv,u.wr++fz⟩
 | .may α m d u=>.may α m d λx=>⟨(u x).sv,(u x).wr++fz⟩
def V8(E:Env)(ρ ρt ρf:Operand->SV)(σ:SSo)(self:Nat)(o:Oper):Option OpRes:=
 match sM E ρ ρt ρf (EF σ (NL σ (d_ E ρ σ o))) self o with
 |some r=>some (r.also (NL σ (d_ E ρ σ o)))
 |none=>none
def RM(all:Array Oper)(sl:Nat->SV)(o:Oper):Option (List (Nat×Bool)×Bool):=match o.guard with
 |none=>some ([],true)
 |some (j,w)=>match all[j]? with
  |some p=>match p.dst with
   |some t=>match sl t with
    | .val .bool b=>some ([(t,w)],bif w then b else !b)
    | .grd tk g (.val .bool b)=>some ((t,w)::tk,g&&(bif w then b else !b))
    |_=>none
   |none=>none
  |none=>none
def YK(t:Nat×Bool):List (Nat×Bool)->Bool
 |[]=>false
 |u::r=>(Nat.beq t.1 u.1&&(bif t.2 then u.2 else !u.2))||YK t r
def SV.strip(tk:List (Nat×Bool)):SV->SV
 | .grd tk' _ s=>bif tk'.all (YK · tk)then s else .undef
 |s=>s
def RN(c:Operand)(w:Bool)(tk:List (Nat×Bool)):List (Nat×Bool):=match c with
 | .tmp t=>(t,w)::tk
 |_=>tk
def AEy{α:Type}(tk:List (Nat×Bool))(g:Bool)(m:Option α)(d:α):Option α:=match tk with
 |[]=>m
 |_=>bif g then m else some d
def NP(sl:Nat->SV)(d:Option Nat)(s:SV):Nat->SV:=match d with
 |none=>sl
 |some d=>λt=>bif Nat.beq t d then s else sl t
def JQ(self k:Nat):Bool:=Nat.ble self k&&Nat.blt k (self+8)
def Upd.local(self:Nat)(u:Upd):Bool:=u.wr.all λp=>JQ self p.1
def SV.names:SV->List Nat
 | .obj k _=>[k]| .ptr k _ _=>[k]| .ptri k _ _ _ _=>[k]| .elem k _ _ _ _=>[k]
 | .fn _ c=>c.names| .pr a b=>a.names++b.names| .grd _ _ s=>s.names| .bt _ c=>c.names| .slf k=>[k]| .scons a b=>a.names++b.names
 |_=>[]
def sN(σ:SSo):Nat->SV->List Nat
 |0,s=>s.names
 |n+1,s=>s.names++s.names.flatMap λk=>match σ k with
  |some (.box _ c _)=>sN σ n c
  |_=>[]
def V9(ρ:Operand->SV)(σ:SSo)(op:Op):List Nat:=match op with
 | .move _=>[]| .assign _=>[]| .fieldAddr _ _ _=>[]| .nilCheck _=>[]| .extract _ _=>[]| .alloc _=>[]| .makeMap _ _=>[]
 | .load _ x=>match ρ x with
  | .ptr k p _=>k::(match σ k with
   |some (.box _ c _)=>match c.getAt p with
    |some (.obj _ _)=>[]
    |some y=>y.names
    |none=>[]
   |_=>[])
  |s=>sN σ 2 s
 |op=>op.operands.toList.flatMap λx=>sN σ 2 (ρ x)
def e7(b:Array Nat)(i j:Nat):Bool:=bif Nat.blt i j then(b.getD j 0).testBit i else(b.getD i 0).testBit j
def YL(all:Array Oper)(o:Oper):List Nat:=
 (o.op.operands.toList.filterMap fun | .tmp t=>some t | _=>none)++(match o.guard with
  |some (j,_)=>match all[j]? with
   |some p=>p.dst.toList
   |none=>[]
  |none=>[])++o.dst.toList
def e9:List Nat->List Nat->Bool
 |[],_=>true
 |k::l,m=>!EW k m&&e9 l m
def YM(all:Array Oper)(cl:List (List Nat×List Nat)):Bool:=
 let b:=Region.before all
 let n:=all.size
 ((List.range n).all λi=>(all.getD i default).after.toList.all λe=>!(Region.binds .any e)||Nat.blt e.on i) &&
 (List.range n).all λi=>(List.range n).all λj=>Nat.beq i j||
  (((match (all.getD i default).dst with | some t=>!(YL all (all.getD j default)).contains t | none=>true)||e7 b i j) &&
   (e9 (cl.getD i ([],[])).1 (cl.getD j ([],[])).2||e7 b i j))
def seen(all:Array Oper)(draw:Bool)(n0 i:Nat)(F:List Nat)(σ:SSo):SSo:=
 bif draw then λk=>bif EW k F&&(Nat.blt k n0||((Region.before all).getD i 0).testBit ((k-n0) / 8))then σ k else none
 else σ
def Upd.far(self:Nat)(u:Upd):List Nat:=(u.wr.filter λp=>!JQ self p.1).map (·.1)
def T4(σ:SSo)(self:Nat)(u:Upd):Bool:=u.wr.all λp=>JQ self p.1||(σ p.1).isSome
def L0(all:Array Oper):Bool:=all.toList.any λo=>match o.guard with|some _=>true|none=>false
def YN(sl:Nat->SV):Nat->SV:=λt=>match sl t with
 | .grd _ _ _=>.undef
 |s=>s
def eA(all:Array Oper):List Nat:=all.toList.filterMap (·.dst)
section
variable{Ω:Type}
def calm(tk:List (Nat×Bool))(u:Upd):Bool:=match tk with
 |[]=>true
 |_=>match u.wr with
  |[]=>true
  |_=>false
def VA:List (Nat×Bool)->Bool
 |[_]=>true
 |_=>false
def sO(draw:Bool)(tk:List (Nat×Bool))(g:Bool)(r:OpRes)(K:Upd->Option Ω):Option Ω:=match r with
 | .pure u=>bif calm tk u then K u else bif !draw&&VA tk then(bif g then K u else K ⟨u.sv,[]⟩)else none
 | .may _ m d u=>Option.bind (AEy tk g m d) λx=>bif calm tk (u x)then K (u x)else bif !draw&&VA tk then(bif g then K (u x)else K ⟨(u x).sv,[]⟩)else none
def RO(tk:List (Nat×Bool))(g:Bool)(s:SV):SV:=match tk with
 |[]=>s
 |tk=>.grd tk g s
def PR(E:Env)(all:Array Oper)(draw:Bool)(n0:Nat):List Oper->Nat->St->List (List Nat×List Nat)->(St->List (List Nat×List Nat)->Option Ω)->Option Ω
 |[],_,st,cl,K=>K st cl
 |o::rest,i,st,cl,K=>match RM all st.slots o with
  |none=>none
  |some (tk,g)=>
   let ρ:=λx=>(GR st.slots x).strip tk
   let c:=V9 ρ st.sto o.op
   let σ:=seen all draw n0 i c st.sto
   match V8 E ρ (match o.op with| .pick c _ _=>λx=>(GR st.slots x).strip (RN c true tk)|_=>ρ)
    (match o.op with| .pick c _ _=>λx=>(GR st.slots x).strip (RN c false tk)|_=>ρ) σ (n0+8*i) o with
   |none=>none
   |some r=>sO draw tk g r λu=>bif T4 σ (n0+8*i) u then
    PR E all draw n0 rest (i+1) {slots:=NP st.slots o.dst (RO tk g u.sv),sto:=EF st.sto u.wr,n:=st.n}
     ((u.far (n0+8*i),c)::cl) K
     else none
def YO(all:Array Oper):Bool:=(List.range all.size).all λi=>match(all.getD i default).guard with
 |some (j,_)=>Nat.blt j i
 |none=>true
def VB(E:Env):List Oper->St->St
 |[],st=>st
 |o::r,st=>match o.op,o.dst with
  | .load _ a,some d=>match bif E.wr d then dS st.sto st.n (GR st.slots a) (st.slots d)else none with
   |some u=>VB E r {slots:=st.slots,sto:=EF st.sto u,n:=st.n+1}
   |none=>VB E r st
  |_,_=>VB E r st
def sP(E:Env)(ops:Array Oper)(draw:Bool)(st:St)(K:St->Option Ω):Option Ω:=
 bif L0 ops && !(LH (eA ops)&&YO ops)then none else
 PR E ops draw st.n ops.toList 0 st [] λst' cl=>
  bif !draw||YM ops cl.reverse then
   K {slots:=bif L0 ops then YN st'.slots else st'.slots,sto:=st'.sto,n:=st.n+8*ops.size}
  else none
def A1l(E:Env)(ops:Array Oper)(draw:Bool)(st:St)(K:St->Option Ω):Option Ω:=sP E ops draw st λst'=>K (VB E ops.toList.reverse st')
def J_:Code->Nat
 | .seq a b=>J_ a+J_ b
 | .cond _ a b=>1+(J_ a+J_ b)
 | .block _ b=>J_ b
 | .loop b=>1+J_ b
 | .scope b=>J_ b
 |_=>0
def YP(E:Env)(c:CSpec)(st:St)(K:Ex->St->Option Ω):Option Ω:=match bif RJ c.al st.slots then OJ E.fs c.inn (KH c.inn st)else none with
 |some v=>match c.nd with
  |none=>Option.bind (c.F v) λx=>Y3 (KH c.inn st) c.wrs (GL (KH c.inn st).sto c.inn.sh (c.inn.tm.map st.slots)) c.outs x λe st'=>K e (Y2 c.al c.wrs st')
  |some d=>QW (d.S v) λo=>Option.bind (d.F v o) λx=>Y3 (KH c.inn st) c.wrs (GL (KH c.inn st).sto c.inn.sh (c.inn.tm.map st.slots)) c.outs x λe st'=>K e (Y2 c.al c.wrs st')
 |none=>none
def sQ(E:Env):Code->Option CSpec
 | .region id _ _=>E.cut (1000000+id)
 |_=>none
def L1(E:Env):Code->Nat->St->(Ex->St->Option Ω)->Option Ω
 | .skip,_,st,K=>K .normal st
 | .region _ ops draw,_,st,K=>A1l E ops draw st (K .normal)
 | .seq a b,n,st,K=>match sQ E a with
  |some s=>YP E s st K
  |none=>L1 E a n st λe st'=>match e with
   | .normal=>L1 E b (n+J_ a) st' K
   |e=>K e st'
 | .cond c a b,n,st,K=>match E.cut n with
  |some s=>YP E s st K
  |none=>match GR st.slots c with
   | .val .bool t=>cond t (L1 E a (n+1) st K) (L1 E b (n+1+J_ a) st K)
   |_=>none
 | .block id b,n,st,K=>L1 E b n st λe st'=>match e with
  | .exit i=>bif Nat.beq i id then K .normal st' else K (.exit i) st'
  |e=>K e st'
 | .loop _,n,st,K=>match E.cut n with
  |some s=>YP E s st K
  |none=>none
 | .exit id,_,st,K=>K (.exit id) st
 | .ret,_,st,K=>K .ret st
 | .scope b,n,st,K=>L1 E b n st K
 | .label _,_,st,K=>K .normal st
 |_,_,_,_=>none
end
def outPut(fs:Nat->Option FSpec):(l:List (Ex×Kp))->Ex->St->Option (H3 l)
 |[],_,_=>none
 |[o],e,st=>bif sameEx o.1 e then OJ fs o.2 (KH o.2 st)else none
 |o::p::r,e,st=>bif sameEx o.1 e then(OJ fs o.2 (KH o.2 st)).map Sum.inl else(outPut fs (p::r) e st).map Sum.inr
 where sameEx:Ex->Ex->Bool
 | .normal,.normal=>true
 | .exit i,.exit j=>Nat.beq i j
 | .ret,.ret=>true
 |_,_=>false
def sR(E:Env)(body:Code)(n:Nat)(al:List (Nat×Nat))(inn:Kp)(outs:List (Ex×Kp))(next:TupR inn.sh->Option (H3 outs))(v:TupR inn.sh):Option (H3 outs):=
 L1 E body n (UX al inn v) λe st=>match e with
  | .normal=>match bif RJ al st.slots then OJ E.fs inn (KH inn st)else none with
   |some w=>next w
   |none=>none
  |e=>outPut E.fs outs e st
def eB(E:Env)(c:Operand)(a b:Code)(n:Nat)(al:List (Nat×Nat))(inn:Kp)(outs:List (Ex×Kp))(v:TupR inn.sh):Option (H3 outs):=
 match GR (UX al inn v).slots c with
 | .val .bool t=>cond t (L1 E a (n+1) (UX al inn v) (outPut E.fs outs)) (L1 E b (n+1+J_ a) (UX al inn v) (outPut E.fs outs))
 |_=>none
def RP(ty:Nat->Option Ty)(wr:Nat->Bool)(st:St):List ResultVar->Option (List SV)
 |[]=>some []
 | .tmp t::r=>match RP ty wr st r with
  |some l=>some (st.slots t::l)
  |none=>none
 | .cell a t::r=>match ty t with
  |some u=>match bif wr a then V2 st.sto u (st.slots a)else loadAt st.sto u (st.slots a)with
   |some s=>match RP ty wr st r with
    |some l=>some (s::l)
    |none=>none
   |none=>none
  |none=>none
def KI:List Sh->List SV->List SV
 | .box _::ps,v::vs=>v::KI ps vs
 | .io _ _::ps,v::vs=>v::KI ps vs
 | .bld _ false::ps,v::vs=>v::KI ps vs
 |_::ps,_::vs=>KI ps vs
 |_,_=>[]
def eC(wr:Nat->Bool)(st:St):List ResultVar->List Nat
 |[]=>[]
 | .tmp _::r=>eC wr st r
 | .cell a _::r=>(bif wr a then []else hkP st.sto (st.slots a))++eC wr st r
def T5(wr:Nat->Bool)(st:St)(l:List ResultVar):St:={slots:=st.slots,sto:=EF st.sto (NL st.sto (eC wr st l)),n:=st.n}
def eE(E:Env)(fn:Func)(ps rs:List Sh)(v:TupR ps):Option (TupR (rs++ps.filter EU)):=
 let k:Kp:=⟨List.range ps.length,ps⟩
 let st0:=I5 k v
 let fin:St->Option (TupR (rs++ps.filter EU)):=λst0=>
  let st:=T5 E.wr st0 fn.results.toList
  match RP E.ty E.wr st fn.results.toList with
  |some l=>R0 E.fs (dI st.sto (rs++ps.filter EU) (l++KI ps ((List.range ps.length).map st.slots))) (rs++ps.filter EU) (l++KI ps ((List.range ps.length).map st.slots))
  |none=>none
 match fn.body with
 |some b=>L1 E b 0 st0 λe st=>match e with
  | .normal=>fin st
  | .ret=>fin st
  | .exit _=>none
 |none=>none
structure Im where
 cell:Nat->Nat->Prop
 obj:Nat->Prop
variable{I I':Im}
structure Row(w:World)(I:Im)(b o n:Nat)(cs:List Value):Prop where
 len:cs.length=n
 at_:∀j,j<n->I.cell b (o+j)/\w.cell? ⟨b,o+j,none⟩=cs[j]?
def KJ(t:Ty)(v:Value)(cs:List Value):Prop:=match t with
 | .agg _=>v=.agg cs.toArray
 | .arr _ _=>v=.agg cs.toArray
 |_=>cs=[v]
def FZ(k:IntKind)(n:Int):Prop:=k.min<=n/\n<=k.max
def IS(n cap:Nat):Prop:=n<=cap/\n<=281474976710656
structure Ext(w:World)(I:Im)(w':World)(I':Im):Prop where
 cell:∀b o,I.cell b o->I'.cell b o/\w'.cell? ⟨b,o,none⟩=w.cell? ⟨b,o,none⟩
 obj:∀b,I.obj b->I'.obj b/\w'.heap[b]?=w.heap[b]?
def Ext.refl(w:World)(I:Im):Ext w I w I:=⟨λ_ _ h=>⟨h,rfl⟩,λ_ h=>⟨h,rfl⟩⟩
theorem Ext.trans{I'':Im}(h:Ext w I w' I')(k:Ext w' I' w'' I''):Ext w I w'' I'':=
 ⟨λb o a=>⟨(k.cell b o (h.cell b o a).1).1,(k.cell b o (h.cell b o a).1).2.trans (h.cell b o a).2⟩,
  λb a=>⟨(k.obj b (h.obj b a).1).1,(k.obj b (h.obj b a).1).2.trans (h.obj b a).2⟩⟩
class Pins where
 P:Program
 ok:World->Im->Prop
 ext:∀{w w':World} {I I':Im},ok w I->Ext w I w' I'->ok w' I'
variable [Pins]
def Pinned(w:World)(I:Im):Prop:=Pins.ok w I
def Pinned.ext(h:Pinned w I)(e:Ext w I w' I'):Pinned w' I':=Pins.ext h e
structure After(gv:Nat->Prop)(w:World)(I:Im)(w':World)(I':Im):Prop where
 ext:Ext w I w' I'
 heap:∀b,b<w.heap.size->¬gv b->w'.heap[b]?=w.heap[b]?
 size:w.heap.size<=w'.heap.size
 newC:∀b o,I'.cell b o->I.cell b o\/w.heap.size<=b\/gv b
 newO:∀b,I'.obj b->I.obj b\/w.heap.size<=b\/gv b
 inC:∀b o,I'.cell b o->b<w'.heap.size
 inO:∀b,I'.obj b->b<w'.heap.size
 os:w'.os=w.os
 tape:w'.tape=w.tape
 output:w'.output=w.output
 pins:Pinned w' I'
def HQ(w:World)(I:Im):Prop:=(∀b o,I.cell b o->b<w.heap.size)/\(∀b,I.obj b->b<w.heap.size)/\Pinned w I
def After.refl(h:HQ w I):After gv w I w I:=
 ⟨Ext.refl _ _,λ_ _ _=>rfl,AD _,λ_ _ h=>.inl h,λ_ h=>.inl h,h.1,h.2.1,rfl,rfl,rfl,h.2.2⟩
def VC:Nat->Prop:=λ_=>False
theorem After.mono{gv':Nat->Prop}(h:After gv w I w' I')(a:∀b,gv b->gv' b):After gv' w I w' I':=
 ⟨h.ext,λb d e=>h.heap b d (λk=>e (a b k)),h.size,λb o k=>(h.newC b o k).imp id (Or.imp id (a b)),
  λb k=>(h.newO b k).imp id (Or.imp id (a b)),h.inC,h.inO,h.os,h.tape,h.output,h.pins⟩
def After.mem(h:After gv w I w' I'):HQ w' I':=⟨h.inC,h.inO,h.pins⟩
theorem After.trans{gv':Nat->Prop}{I'':Im}(h:After gv w I w' I')(k:After gv' w' I' w'' I'')
 (j:∀b,gv' b->gv b\/w.heap.size<=b):After gv w I w'' I'':=
 ⟨h.ext.trans k.ext,
  λb a e=>(k.heap b (AO a h.size) (λhk=>(j b hk).elim e (λl=>absurd a (Nat.not_lt.2 l)))).trans (h.heap b a e),
  AM h.size k.size,
  λb o d=>by
   rcases k.newC b o d with h1|h1|h1
   .exact h.newC b o h1
   .exact .inr (.inl (AM h.size h1))
   grind,
  λb d=>by
   rcases k.newO b d with h1|h1|h1
   .exact h.newO b h1
   .exact .inr (.inl (AM h.size h1))
   grind,
  k.inC,k.inO,k.os.trans h.os,k.tape.trans h.tape,k.output.trans h.output,k.pins⟩
def FK(P:Program)(f:Nat):Prop:=∃fn c,P.funcs[f]?=some fn/\(fn.name== "runtime.NumGoroutine")=false/\fn.body=some c
def eF:Ty->List Value->List Value->Prop
 | .prod a b,l,cs=>∃v r c d,l=v::r/\cs=c++d/\c.length=a.sz/\KJ a v c/\eF b r d
 |t,l,cs=>∃v,l=[v]/\KJ t v cs
def A1m(c:Ty)(rv:Value)(cs:List Value):Prop:=match c with
 | .prod a b=>∃vs:Array Value,rv=.tuple vs/\eF (.prod a b) vs.toList cs
 |t=>KJ t rv cs
def PE{α β:Type}(p es:List (α×β)):Prop:=p.Perm es/\(es.map (·.1)).Nodup
def Rel(w:World)(I:Im):(t:Ty)->t.T->List Value->Prop
 | .unit,_,cs=>cs=[]
 | .bool,x,cs=>cs=[.bool x]
 | .int k,n,cs=>cs=[.int k n]/\FZ k n
 | .str,s,cs=>cs=[.string ⟨s.toArray⟩]/\(show List UInt8 from s).length<=281474976710656
 | .slice e,xs,cs=>∃a cap,cs=[.slice a (show List e.T from xs).length cap]/\IS (show List e.T from xs).length cap/\
  (a=none->(show List e.T from xs)=[]/\cap=0)/\
  ∀ad,a=some ad→(cap≠0→ad.spot=none)∧∀i x,(show List e.T from xs)[i]?=some x→∃c,Row w I ad.block (ad.off+i*e.sz) e.sz c∧Rel w I e x c
 | .agg t,x,cs=>Rel w I t x cs
 | .prod a b,x,cs=>∃c d,cs=c++d/\Rel w I a x.1 c/\Rel w I b x.2 d
 | .arr n e,xs,cs=>(show List e.T from xs).length=n/\cs.length=n*e.sz/\
  ∀i x,(show List e.T from xs)[i]?=some x->Rel w I e x ((cs.drop (i*e.sz)).take e.sz)
 | .ptr e,x,cs=>match(show Option e.T from x)with
  |none=>cs=[.pointer none]
  |some y=>∃ad,cs=[.pointer (some ad)]/\ad.spot=none/\∃c,Row w I ad.block ad.off e.sz c/\Rel w I e y c
 | .map k v,es,cs=>∃p:List (k.T×v.T),PE p (show List (k.T×v.T)from es)/\∃r,cs=[.map r]/\(r=none->p=[])/\
  ∀b,r=some b->I.obj b/\∃ents clock,w.heap[b]?=some (.map ents clock)/\(ents.size=p.length/\Go.MapKept.Stamped ents clock)/\
   ∀(i:Nat) (x:k.T×v.T) (e:MapEntry),p[i]?=some x->ents[i]?=some e->
    (∃c,KJ k e.key c/\Rel w I k x.1 c)/\(∃c,KJ v e.val c/\Rel w I v x.2 c)
 | .inil,_,cs=>cs=[.nilIface]
 | .ialt id t r,x,cs=>match(show Sum t.T r.T from x)with
  | .inl y=>∃v c,cs=[.iface id v]/\KJ t v c/\Rel w I t y c
  | .inr z=>cs.length=1/\Rel w I r z cs
 | .self,_,cs=>cs=[.pointer none]
 | .opq,_,cs=>∃v,cs=[v]/\v.oneCell'=true
 | .fnc d c,F,cs=>match(show Option (d.T->Option c.T)from F)with
  |none=>cs=[.nilFunc]
  |some F=>∃f vs,cs=[.func (.func f) #[] vs]/\FK Pins.P f/\∀w' I',Ext w I w' I'->HQ w' I'->∀(x:d.T) (l ac:List Value),eF d l ac->Rel w' I' d x ac->∀y,F x=some y->
    Calls Pins.P f (l.toArray++vs) w' λe w''=>∃rv I'' rc,e=.returned rv/\After VC w' I' w'' I''/\A1m c rv rc/\Rel w'' I'' c y rc
def VRel(w:World)(I:Im)(t:Ty)(x:t.T)(v:Value):Prop:=∃c,KJ t v c/\Rel w I t x c
section
variable{w w':World}{I I':Im}
def Row.ext(h:Row w I b o n cs)(e:Ext w I w' I'):Row w' I' b o n cs:=
 ⟨h.len,λj a=>⟨(e.cell _ _ (h.at_ j a).1).1,(e.cell _ _ (h.at_ j a).1).2.trans (h.at_ j a).2⟩⟩
theorem Rel.ext(e:Ext w I w' I'):∀{t:Ty} {x:t.T} {cs:List Value},Rel w I t x cs->Rel w' I' t x cs:=by
 intro t;induction t with
 |unit=>intro x cs h;exact h
 |bool=>intro x cs h;exact h
 |int k=>intro x cs h;exact h
 |str=>intro x cs h;exact h
 |slice s C=>intro x cs h;obtain⟨a,H,h1,j,m,D⟩:=h;refine⟨a,H,h1,j,m,λad G=>⟨(D ad G).1,λi y B=>?_⟩⟩;have⟨c,J,L⟩:=(D ad G).2 i y B;exact⟨c,J.ext e,C L⟩
 |agg s C=>intro x cs h;exact C (show Rel w I s x cs from h)
 |prod a b M N=>intro x cs h;obtain⟨c,d,h1,j,m⟩:=h;exact⟨c,d,h1,M j,N m⟩
 |arr n s C=>intro x cs h;obtain⟨h1,j,m⟩:=h;exact⟨h1,j,λi y B=>C (m i y B)⟩
 |ptr s C=>
  intro x cs h;cases x with
  |none=>exact h
  |some y=>obtain⟨ad,h1,j,c,m,D⟩:=h;exact⟨ad,h1,j,c,m.ext e,C D⟩
 |map k v O T=>intro x cs h;obtain⟨p,hp,r,h1,j,m⟩:=h;refine⟨p,hp,r,h1,j,λb W=>?_⟩;have⟨hi,E,A,D,U,V⟩:=m b W;refine⟨(e.obj b hi).1,E,A,(e.obj b hi).2.trans D,U,λi y en B K=>?_⟩;have⟨⟨c,J,L⟩,⟨d,X,hs⟩⟩:=V i y en B K;exact⟨⟨c,J,O L⟩,⟨d,X,T hs⟩⟩
 |inil=>intro x cs h;exact h
 |self=>intro x cs h;exact h
 |opq=>intro x cs h;exact h
 |fnc d c _ _=>
  intro x cs h;cases x with
  |none=>exact h
  |some F=>obtain⟨f,vs,h1,j,m⟩:=h;exact⟨f,vs,h1,j,λw1 I1 Y Z x l ac k1 k2 y B=>m w1 I1 (e.trans Y) Z x l ac k1 k2 y B⟩
 |ialt id t r R Q=>
  intro x cs h;cases x with
  |inl y=>obtain⟨v,c,h1,j,m⟩:=h;exact⟨v,c,h1,j,R m⟩
  |inr z=>exact⟨h.1,Q h.2⟩
def VRel.ext{x:t.T}{v:Value}(h:VRel w I t x v)(e:Ext w I w' I'):VRel w' I' t x v:=
 let ⟨c,h1,h2⟩:=h;⟨c,h1,h2.ext e⟩
theorem Rel.length:∀{t:Ty} {x:t.T} {cs:List Value},Rel w I t x cs->cs.length=t.sz:=by
 intro t;induction t with
 |unit=>intro x cs h;rw[show cs=[]from h];rfl
 |bool=>intro x cs h;rw[show cs=[.bool x]from h];rfl
 |int k=>intro x cs h;rw[show cs=_ from h.1];rfl
 |str=>intro x cs h;rw[show cs=_ from h.1];rfl
 |slice s e=>intro x cs h;obtain⟨a,m,h1,_⟩:=h;rw[h1];rfl
 |agg s e=>intro x cs h;exact e (show Rel w I s x cs from h)
 |prod a b j l=>intro x cs h;obtain⟨c,d,h1,A,B⟩:=h;rw[h1,AI,j A,l B];rfl
 |arr n s e=>intro x cs h;exact h.2.1
 |ptr s e=>
  intro x cs h;cases x with
  |none=>rw[show cs=_ from h];rfl
  |some y=>obtain⟨ad,h1,_⟩:=h;rw[h1];rfl
 |map k v C G=>intro x cs h;obtain⟨p,H,r,h1,_⟩:=h;rw[h1];rfl
 |inil=>intro x cs h;rw[show cs=_ from h];rfl
 |self=>intro x cs h;rw[show cs=_ from h];rfl
 |opq=>intro x cs h;obtain⟨v,h1,_⟩:=h;rw[h1];rfl
 |fnc d c _ _=>
  intro x cs h;cases x with
  |none=>rw[show cs=_ from h];rfl
  |some F=>obtain⟨f,J,h1,_⟩:=h;rw[h1];rfl
 |ialt id t r E D=>
  intro x cs h;cases x with
  |inl y=>obtain⟨v,c,h1,_⟩:=h;rw[h1];rfl
  |inr z=>exact h.1
end
def zc:Ty->List Value->Option (List Value)
 | .unit,l=>some l
 | .bool,l=>match l with| .bool false::r=>some r|_=>none
 | .int k,l=>match l with| .int k' n::r=>if OH k k'&&n==0 then some r else none|_=>none
 | .str,l=>match l with| .string s::r=>if s.data.toList.length==0 then some r else none|_=>none
 | .slice _,l=>match l with| .slice none 0 0::r=>some r|_=>none
 | .agg t,l=>zc t l
 | .prod a b,l=>match zc a l with|some r=>zc b r|none=>none
 | .arr n e,l=>Nat.rec (motive:=λ_=>List Value->Option (List Value)) some (λ_ ih l=>match zc e l with|some r=>ih r|none=>none) n l
 | .ptr _,l=>match l with| .pointer none::r=>some r|_=>none
 | .map _ _,l=>match l with| .map none::r=>some r|_=>none
 | .inil,l=>match l with| .nilIface::r=>some r|_=>none
 | .self,l=>match l with| .pointer none::r=>some r|_=>none
 | .opq,l=>match l with|v::r=>if v.oneCell'=true then some r else none|_=>none
 | .fnc _ _,l=>match l with| .nilFunc::r=>some r|_=>none
 | .ialt _ _ q,l=>if q.isIface=true then(match l with| .nilIface::r=>some r|_=>none)else none
def PS(t:Ty)(l:List Value):Bool:=match zc t l with
 |some []=>true
 |_=>false
def zv(t:Ty)(v:Value):Bool:=match t with
 | .agg t=>match v with| .agg cs=>PS t cs.toList|_=>false
 | .arr n e=>match v with| .agg cs=>PS (.arr n e) cs.toList|_=>false
 |t=>match v with| .agg _=>false|v=>PS t [v]
def A1n(P:Program)(id:Nat):Bool:=Nat.blt id P.types.size&&(match P.info? id with
 |some i=>match i.desc with| .named ..=>true|_=>false
 |none=>false)
def T6(P:Program)(t:Ty)(id:Nat):Bool:=(match P.info? id with
 |some i=>Nat.beq i.size t.sz&&(Nat.ble i.bytes (24*t.sz)&&(match i.zero with|some v=>zv t v|none=>false))
 |none=>false)&&(!(t.same (.agg GS))||A1n P id)
def layB(P:Program):Ty->(Nat->Bool)×(List Field->Nat->Bool)
 | .prod a b=>(λ_=>false,λl off=>match l with
  |f::r=>Nat.beq f.offset off&&((layB P a).1 f.type&&((layB P b).2 r (off+a.sz)&&Nat.blt 0 b.fields))
  |[]=>false)
 | .unit=>(λ_=>false,λl _=>match l with|[]=>true|_=>false)
 | .bool=>one .bool λd=>match d with| .bool=>true|_=>false
 | .int k=>one (.int k) λd=>match d with| .int k'=>OH k k'|_=>false
 | .str=>one .str λd=>match d with| .string=>true|_=>false
 | .slice e=>one (.slice e) λd=>match d with| .slice el=>(layB P e).1 el&&Nat.blt 0 e.sz|_=>false
 | .agg p=>one (.agg p) λd=>match d with| .struct fs=>(layB P p).2 fs.toList 0&&Nat.blt 0 p.sz|_=>false
 | .arr n e=>one (.arr n e) λd=>match d with| .array m el=>Nat.beq n m&&((layB P e).1 el&&(Nat.blt 0 e.sz&&Nat.blt 1 n))|_=>false
 | .ptr e=>one (.ptr e) λd=>match d with| .pointer el=>(layB P e).1 el|_=>false
 | .map k v=>one (.map k v) λd=>match d with| .map a b=>(layB P k).1 a&&(layB P v).1 b|_=>false
 | .inil=>one .inil λd=>match d with| .interface _=>true|_=>false
 | .self=>one .self λd=>match d with| .pointer _=>true|_=>false
 | .opq=>one .opq λd=>match d with| .pointer _=>true| .slice _=>true| .map _ _=>true| .func _ _ _=>true|_=>false
 | .fnc a b=>one (.fnc a b) λd=>match d with| .func _ _ _=>true|_=>false
 | .ialt i t r=>one (.ialt i t r) λd=>match d with| .interface _=>(Ty.isIface (.ialt i t r))|_=>false
 where
 one (t:Ty) (c:TypeDesc->Bool):(Nat->Bool)×(List Field->Nat->Bool):=
  let base:=λid=>T6 P t id&&(match P.underlying id with|some d=>c d|none=>false)
  (base,λl off=>match l with|[f]=>Nat.beq f.offset off&&base f.type|_=>false)
def Lay(P:Program)(t:Ty)(id:Nat):Prop:=(layB P t).1 id=true
theorem Ty.sz_bare(t:Ty):t.bare.sz=t.sz:=by cases t<;>rfl
def NQ(t:Ty)(p:List Bool)(u:Ty):Prop:=∃u',t.sub p=some u'/\u'.bare=u.bare
structure Gh where
 im:Im
 val:Nat->Nat->Option Value
 ety:Nat->Option Ty
 box:Nat->Option (Nat×Ty)
variable [Pins]
def ArgsV(w:World)(I:Im):(d:Ty)->d.T->List Value->Prop
 | .prod a b,x,l=>∃v r,l=v::r/\VRel w I a x.1 v/\ArgsV w I b x.2 r
 |t,x,l=>∃v,l=[v]/\VRel w I t x v
def RetV(w:World)(I:Im):(c:Ty)->c.T->Value->Prop
 | .prod a b,y,rv=>∃vs:Array Value,rv=.tuple vs/\ArgsV w I (.prod a b) y vs.toList
 |t,y,rv=>VRel w I t y rv
theorem eG:∀{d:Ty} {x:d.T} {l:List Value},ArgsV w I d x l<->∃ac,eF d l ac/\Rel w I d x ac:=by
 intro d;induction d with
 |prod a b z j=>
  intro x l;constructor
  .rintro⟨v,r,rfl,⟨c,h1,h⟩,p⟩;have⟨ac,s,m⟩:=j.1 p;exact⟨c++ac,⟨v,r,c,ac,rfl,rfl,h.length,h1,s⟩,c,ac,rfl,h,m⟩
  .rintro⟨ac,⟨v,r,c,e,rfl,rfl,h1,h,p⟩,A,B,s,m,y⟩;obtain⟨rfl,rfl⟩:=List.append_inj s (by rw[h1,m.length]);exact⟨v,r,rfl,⟨c,h,m⟩,j.2 ⟨e,p,y⟩⟩
 |_=>
  intro x l;constructor
  .rintro⟨v,rfl,c,h1,h⟩;exact⟨c,⟨v,rfl,h1⟩,h⟩
  .rintro⟨ac,⟨v,rfl,h1⟩,h⟩;exact⟨v,rfl,ac,h1,h⟩
theorem A1o:∀{c:Ty} {y:c.T} {j:Value},RetV w I c y j<->∃d,A1m c j d/\Rel w I c y d:=by
 intro c y j;cases c with
 |prod a b=>
  constructor
  .rintro⟨l,rfl,h⟩;have⟨ac,h1,e⟩:=eG.1 h;exact⟨ac,⟨l,rfl,h1⟩,e⟩
  .rintro⟨d,⟨l,rfl,h1⟩,e⟩;exact⟨l,rfl,eG.2 ⟨d,h1,e⟩⟩
 |_=>exact Iff.rfl
theorem RetV.one{c:Ty}{y:c.T}{d:Value}(h:∀a b,c≠.prod a b):RetV w I c y d<->VRel w I c y d:=by cases c<;>first|exact Iff.rfl|grind
def HofD(P:Program)(D:Prop)(w:World)(I:Im)(d c:Ty)(F:d.T->Option c.T)(f:Nat)(vs:Array Value):Prop:=
 FK P f/\∀w' I',Ext w I w' I'->HQ w' I'->∀x (l:List Value),ArgsV w' I' d x l->∀y,F x=some y->
  Calls P f (l.toArray++vs) w' λe w''=>∃rv I'',e=.returned rv/\After VC w' I' w'' I''/\RetV w'' I'' c y rv/\(D->w'.drawn<=w''.drawn)
def HofD.fnc{d c:Ty}{F:d.T->Option c.T}{vs:Array Value}{D:Prop}(h:HofD Pins.P D w I d c F f vs):
 Rel w I (.fnc d c) (some F:Option (d.T→Option c.T)) [.func (.func f) #[] vs]:=
 ⟨f,vs,rfl,h.1,λw' I' a b x l ac k1 j y e=>(h.2 w' I' a b x l (eG.2 ⟨ac,k1,j⟩) y e).mono λ_ _ ⟨z,I'',m,p,s,_⟩ =>
  let ⟨rc,r1,r2⟩:=A1o.1 s
  ⟨z,I'',rc,m,p,r1,r2⟩⟩
def A1p{d c:Ty}{F:d.T->Option c.T}(h:Rel w I (.fnc d c) (some F:Option (d.T->Option c.T)) cs):
 ∃f a,cs=[.func (.func f) #[] a]/\HofD Pins.P False w I d c F f a:=by
 obtain⟨f,a,h1,b,e⟩:=h;refine⟨f,a,h1,b,λw' I' j m x l p y s=>?_⟩;grind[eG,A1o]
def sS:SV->Value->List Value->Prop
 | .val t _,v,c=>KJ t v c
 |_,v,c=>c=[v]
def Fit:SV->Ty->Prop
 | .val u _,t=>u.bare=t.bare
 | .pr a b,t=>∃x y,t.bare=.prod x y/\Fit a x/\Fit b y
 | .obj _ _,t=>t.sz=1
 | .ptr _ _ _,t=>t.sz=1
 | .nilS,t=>t.sz=1
 | .nns _ _,t=>t.sz=1
 | .mns _ _,t=>t.sz=1
 | .fn _ _,t=>t.sz=1
 | .hof _ _ _ _,t=>t.sz=1
 | .slf _,t=>t.sz=1
 |_,_=>False
def CR(P:Program)(w:World)(G:Gh):SV->List Value->Prop
 | .undef,_=>True
 | .val t x,cs=>Rel w G.im t x cs
 | .nilS,cs=>cs=[.slice none 0 0]
 | .nilI,cs=>cs=[.nilIface]
 | .nilP,cs=>cs=[.pointer none]
 | .nilM,cs=>cs=[.map none]
 | .nilF,cs=>cs=[.nilFunc]
 | .nns e x,cs=>Rel w G.im (.slice e) x cs/\∃ad len cap,cs=[.slice (some ad) len cap]
 | .mns e x,cs=>Rel w G.im (.slice e) (x.getD []) cs/\∃ad len cap,cs=[.slice ad len cap]/\(x=none->ad=none)
 | .pr a b,cs=>∃c d,cs=c++d/\CR P w G a c/\CR P w G b d
 | .obj k g,cs=>∃v,G.val k g=some v/\v.oneCell'=true/\cs=[v]
 | .ptr k p u,cs=>∃b t o,G.box k=some (b,t)/\t.off p=some o/\NQ t p u/\cs=[.pointer (some ⟨b,o,none⟩)]
 | .ptri k p i q u,cs=>∃b t o n e o',G.box k=some (b,t)/\t.off p=some o/\NQ t p (.arr n e)/\i<n/\e.off q=some o'/\NQ e q u/\
  cs=[.pointer (some ⟨b,o+i*e.sz+o',none⟩)]
 | .elem k g i q u,cs=>∃b o len cap e o',G.val k g=some (.slice (some ⟨b,o,none⟩) len cap)/\G.ety k=some e/\i<len/\e.off q=some o'/\NQ e q u/\
  cs=[.pointer (some ⟨b,o+i*e.sz+o',none⟩)]
 | .ref t x,cs=>∃ad c,cs=[.pointer (some ad)]/\ad.spot=none/\Row w G.im ad.block ad.off t.sz c/\Rel w G.im t x c
 | .lnS n,cs=>∃a cap,cs=[.slice a n cap]/\n<=281474976710656
 | .rf0 t x,cs=>∃b c,cs=[.pointer (some ⟨b,0,none⟩)]/\Row w G.im b 0 t.sz c/\Rel w G.im t x c
 | .fn f caps,cs=>∃vs:Array Value,cs=[.func (.func f) #[] vs]/\CR P w G caps vs.toList
 | .hof nd d c F,cs=>∃f vs,cs=[.func (.func f) #[] vs]/\HofD P (nd=true) w G.im d c F f vs
 | .snil,cs=>cs=[]
 | .scons a b,cs=>∃v r,cs=v::r/\(∃c,sS a v c/\CR P w G a c)/\CR P w G b r
 | .tup l,cs=>∃vs:Array Value,cs=[.tuple vs]/\CR P w G l vs.toList
 | .grd _ _ _,_=>False
 | .bt t c,cs=>∃cs',cs=[.agg cs'.toArray]/\(∃a b,t=.agg (.prod a b)/\Fit c (.prod a b))/\(∀x∈cs',x.oneCell'=true)/\CR P w G c cs'
 | .slf k,cs=>∃b t,G.box k=some (b,t)/\(cs=[.pointer none]\/cs=[.pointer (some ⟨b,0,none⟩)])
def SR(P:Program)(w:World)(G:Gh)(s:SV)(v:Value):Prop:=∃c,sS s v c/\CR P w G s c
structure GLe(w:World)(G:Gh)(w':World)(G':Gh):Prop where
 ext:Ext w G.im w' G'.im
 val:∀k g v,G.val k g=some v->G'.val k g=some v
 ety:∀k t,G.ety k=some t->G'.ety k=some t
 box:∀k b,G.box k=some b->G'.box k=some b
def GLe.refl(w:World)(G:Gh):GLe w G w G:=⟨Ext.refl _ _,λ_ _ _ h=>h,λ_ _ h=>h,λ_ _ h=>h⟩
theorem GLe.trans{G G' G'':Gh}(h:GLe w G w' G')(k:GLe w' G' w'' G''):GLe w G w'' G'':=
 ⟨h.ext.trans k.ext,λa b c d=>k.val _ _ _ (h.val a b c d),λa b c=>k.ety _ _ (h.ety a b c),λa b c=>k.box _ _ (h.box a b c)⟩
section
variable{P:Program}{w w':World}{G G':Gh}
def CR.mono(e:GLe w G w' G'):∀{s:SV} {cs:List Value},CR P w G s cs->CR P w' G' s cs:=by
 intro s;induction s with
 |undef=>intro cs h;trivial
 |val t x=>intro cs h;exact Rel.ext e.ext (show Rel w G.im t x cs from h)
 |nilS=>intro cs h;exact h
 |nilI=>intro cs h;exact h
 |nilP=>intro cs h;exact h
 |nilM=>intro cs h;exact h
 |nilF=>intro cs h;exact h
 |nns t x=>intro cs h;exact⟨Rel.ext e.ext h.1,h.2⟩
 |mns t x=>intro cs h;exact⟨Rel.ext e.ext h.1,h.2⟩
 |pr a b A B=>intro cs h;obtain⟨c,d,h1,j,m⟩:=h;exact⟨c,d,h1,A j,B m⟩
 |obj k g=>intro cs h;obtain⟨v,h1,j⟩:=h;exact⟨v,e.val _ _ _ h1,j⟩
 |ptr k p u=>intro cs h;obtain⟨b,t,o,h1,j⟩:=h;exact⟨b,t,o,e.box _ _ h1,j⟩
 |ptri k p i q u=>intro cs h;obtain⟨b,t,o,n,el,H,h1,j⟩:=h;exact⟨b,t,o,n,el,H,e.box _ _ h1,j⟩
 |elem k g i q u=>intro cs h;obtain⟨b,o,l,c,el,H,h1,j,m⟩:=h;exact⟨b,o,l,c,el,H,e.val _ _ _ h1,e.ety _ _ j,m⟩
 |ref t x=>intro cs h;obtain⟨ad,c,h1,j,m,z⟩:=h;exact⟨ad,c,h1,j,m.ext e.ext,z.ext e.ext⟩
 |lnS n=>intro cs h;exact h
 |rf0 t x=>intro cs h;obtain⟨b,c,h1,m,z⟩:=h;exact⟨b,c,h1,m.ext e.ext,z.ext e.ext⟩
 |fn f I C=>intro cs h;obtain⟨D,h1,j⟩:=h;exact⟨D,h1,C j⟩
 |hof d c F=>intro cs h;obtain⟨f,D,h1,j⟩:=h;exact⟨f,D,h1,j.1,λN I1 J K x l L y M=>j.2 N I1 (e.ext.trans J) K x l L y M⟩
 |snil=>intro cs h;exact h
 |scons a b A B=>intro cs h;obtain⟨v,r,h1,⟨c,j,m⟩,z⟩:=h;exact⟨v,r,h1,⟨c,j,A m⟩,B z⟩
 |tup l C=>intro cs h;obtain⟨D,h1,j⟩:=h;exact⟨D,h1,C j⟩
 |grd _ _ _ _=>intro cs h;exact h
 |bt t c C=>intro cs h;obtain⟨E,h1,j,m,z⟩:=h;exact⟨E,h1,j,m,C z⟩
 |slf k=>intro cs h;obtain⟨b,t,h1,j⟩:=h;exact⟨b,t,e.box _ _ h1,j⟩
def SR.mono{v:Value}(h:SR P w G s v)(e:GLe w G w' G'):SR P w' G' s v:=let ⟨c,h1,h2⟩:=h;⟨c,h1,h2.mono e⟩
end
structure Fr where
 gv:Nat->Prop
 w0:World
 i0:Im
 fx:Nat->Option Value
 dr:Bool
variable{fr:Fr}
def Fr.owned(fr:Fr)(b:Nat):Prop:=fr.w0.heap.size<=b\/fr.gv b
def RowAt(w:World)(b:Nat)(cs:Array Value)(el:TypeId):Prop:=∃fz:Nat×Nat,w.heap[b]?=some (.cells cs el fz)/\(fz.2<=fz.1\/cs.size<=fz.1/\Pins.P.underlying el=some (.int .u8))
def RowAt.of{cs:Array Value}(h:w.heap[b]?=some (.cells cs el (0,0))):RowAt w b cs el:=⟨_,h,.inl (AD _)⟩
def RowAt.lt{cs:Array Value}(h:RowAt w b cs el):b<w.heap.size:=let ⟨_,h1,_⟩:=h;(B1.1 h1).1
def RowAt.cell{cs:Array Value}(h:RowAt w b cs el)(o:Nat):w.cell? ⟨b,o,none⟩=cs.toList[o]?:=by obtain⟨fz,h1,_⟩:=h;simp[World.cell?,h1]
theorem RowAt.keep{cs:Array Value}(h:RowAt w b cs el)(e:w'.heap[b]?=w.heap[b]?):RowAt w' b cs el:=let ⟨fz,h1,h2⟩:=h;⟨fz,e.trans h1,h2⟩
def SlOK(fr:Fr)(w:World)(I:Im)(el:Nat)(t:Ty)(xs:List t.T)(wr:Bool)(v:Value):Prop:=
 (v=.slice none 0 0/\xs=[])\/
 ∃b cap cs,v=.slice (some ⟨b,0,none⟩) xs.length cap/\IS xs.length cap/\RowAt w b cs el/\cs.size=cap*t.sz/\
  (∀i x,xs[i]?=some x->Rel w I t x ((cs.toList.drop (i*t.sz)).take t.sz))/\fr.owned b/\
  (wr=true->∀o,¬I.cell b o)/\(wr=false->∀o,o<xs.length*t.sz<->I.cell b o)/\¬I.obj b
def A1q(fr:Fr)(w:World)(I:Im)(k v:Ty)(es:List (k.T×v.T))(wr:Bool)(cv:Value):Prop:=
 ∃p:List (k.T×v.T),PE p es/\∃b ents clock,cv=.map (some b)/\w.heap[b]?=some (.map ents clock)/\(ents.size=p.length/\Go.MapKept.Stamped ents clock)/\
  (∀(i:Nat) (x:k.T×v.T) (e:MapEntry),p[i]?=some x->ents[i]?=some e->VRel w I k x.1 e.key/\VRel w I v x.2 e.val)/\((wr=true->¬I.obj b)/\(wr=false->I.obj b))/\(∀o,¬I.cell b o)/\fr.owned b
def HS:Value->Value
 | .slice (some ad) _ _=>.map (some ad.block)
 |_=>.map none
def MgOK(fr:Fr)(w:World)(I:Im)(id:Nat)(k t:Ty)(es:List (k.T×List t.T))(tk:Option k.T)(us:List Value)(cv:Value):Prop:=
 ∃b ents clock,cv=.map (some b)/\w.heap[b]?=some (.map ents clock)/\(ents.size=es.length/\Go.MapKept.Stamped ents clock)/\us.length=es.length/\
  (∀ (i:Nat) (x:k.T×List t.T) (e:MapEntry) (u:Value),es[i]? = some x->ents[i]? = some e->us[i]? = some u ->
   VRel w I k x.1 e.key/\((tk=some x.1/\u=.map none/\VRel w I (.slice t) x.2 e.val)\/(SlOK fr w I id t x.2 false e.val/\u=HS e.val)))/\
  (∀(i j c:Nat),us[i]?=some (.map (some c))->us[j]?=some (.map (some c))->i=j)/\(es.map (·.1)).Nodup/\¬I.obj b/\(∀o,¬I.cell b o)/\fr.owned b
def VD:Option (List Nat)->Nat->Option (List Nat)
 |some (j::p),i=>bif Nat.beq j i then some p else none
 |_,_=>none
def DV(ow:Nat->Prop)(w:World)(I:Im)(t:Ty):(ids:List Nat)->(E2 ids t).T->Option (List Nat)->List Value->List Nat->Prop
 |[],x,_,cs,bs=>bs=[]/\Rel w I t x cs
 |id::r,xs,h,cs,bs=>∃v,cs=[v]/\v.oneCell'=true/\
  ((h=some []/\bs=[]/\∃ a cap,v=.slice a (show List (E2 r t).T from xs).length cap/\(show List (E2 r t).T from xs).length<=281474976710656) \/
   (h≠some []/\v=.slice none 0 0/\(show List (E2 r t).T from xs)=[]/\bs=[])\/
   (h≠some []/\∃ b o cap cells bss,v=.slice (some ⟨b,o,none⟩) (show List (E2 r t).T from xs).length cap/\IS (show List (E2 r t).T from xs).length cap/\RowAt w b cells id /\
    o+cap*(E2 r t).sz<=cells.size/\ow b/\(∀c,¬I.cell b c)/\¬I.obj b/\List.length bss=(show List (E2 r t).T from xs).length/\bs=b::List.flatten bss/\
    ∀i x,(show List (E2 r t).T from xs)[i]?=some x->DV ow w I t r x (VD h i) ((cells.toList.drop (o+i*(E2 r t).sz)).take (E2 r t).sz) (bss.getD i [])))
def IK(b:Nat):Value:=.map (some b)
def sT(w:World)(G:Gh)(gk:Nat)(h:Option (List Nat))(v:Value):Prop:=match h with
 |some [i]=>∃hv b o len cap,G.val (gk-2) 0=some hv/\v=.slice (some ⟨b,o,none⟩) len cap/\i<len/\w.cell? ⟨b,o+i,none⟩=some hv
 |_=>True
def DpOK(fr:Fr)(w:World)(G:Gh)(k:Nat):(ids:List Nat)->(t:Ty)->(E2 ids t).T->Nat->Option (List Nat)->Bool->Prop
 |[],_,_,_,_,_=>False
 |id::r,t,x,gk,h,true=>h≠some []/\G.ety k=some (E2 r t)/\∃v us bs,G.val k 0=some v/\G.val gk 0=some (.tuple us)/\us.toList=List.map IK bs/\bs.Nodup/\DV fr.owned w G.im t (id::r) x h [v] bs/\sT w G gk h v
 |id::r,t,x,_,_,false=>∃v,G.val k 0=some v/\Rel w G.im (E2 (id::r) t) x [v]
def ItAt(w:World)(I:Im)(a b:Ty)(es:List (a.T×b.T))(o:Go.Obj):Prop:=
 ∃m,VRel w I (.map a b) es (.map m)/\((m=none/\o=.mapIter none 0 #[] 0)\/∃mb ents clock,m=some mb/\o=.mapIter (some mb) clock #[] clock/\w.heap[mb]?=some (.map ents clock))
theorem ItAt.lt{a b:Ty}{d:List (a.T×b.T)}{o:Go.Obj}(h:ItAt w I a b d o):∀cells el,o≠.cells cells el (0,0):=by intro c el e;obtain⟨m,_,⟨_,h⟩|⟨_,_,_,_,h,_⟩⟩:=h<;>rw[h]at e<;>cases e
def ObjOK(P:Program)(fr:Fr)(w:World)(G:Gh)(k:Nat):Obj->Prop
 | .box t c wr=>∃b cs el,G.box k=some (b,t)/\w.heap[b]?=some (.cells cs el (0,0))/\cs.size=t.sz/\Fit c t/\CR P w G c cs.toList/\((wr=true->∀o,¬G.im.cell b o)/\(wr=false->∀o,o<t.sz->G.im.cell b o))/\¬G.im.obj b/\fr.owned b/\(t=GS->Lay P (.agg GS) el)
 | .sl el t xs g wr=>G.ety k=some t/\∃v,G.val k g=some v/\SlOK fr w G.im el t xs wr v
 | .mp a b es wr=>∃v,G.val k 0=some v/\A1q fr w G.im a b es wr v
 | .mg id a t es tk gk=>∃v us,G.val k 0=some v/\G.val gk 0=some (.tuple us)/\MgOK fr w G.im id a t es tk us.toList v
 | .dp ids t x gk h wr=>DpOK fr w G k ids t x gk h wr
 | .it a b es=>∃r o,G.val k 0=some (.pointer (some ⟨r,0,none⟩))/\w.heap[r]?=some o/\ItAt w G.im a b es o/\¬G.im.obj r/\(∀j,¬G.im.cell r j)/\fr.owned r
def Bk(G:Gh)(k:Nat)(o:Obj)(b:Nat):Prop:=match o with
 | .box _ _ _=>(G.box k).map (·.1)=some b
 | .sl _ _ _ g _=>(match G.val k g with
  |some (.slice (some ad) _ _)=>some ad.block
  |_=>none)=some b
 | .mp _ _ _ _=>(match G.val k 0 with
  |some (.map (some b))=>some b
  |_=>none)=some b
 | .mg _ _ _ _ _ gk=>G.val k 0=some (.map (some b))\/∃us,G.val gk 0=some (.tuple us)/\Value.map (some b)∈us.toList
 | .dp _ _ _ gk _ wr=>wr=true/\∃us,G.val gk 0=some (.tuple us)/\IK b∈us.toList
 | .it _ _ _=>(match G.val k 0 with
  |some (.pointer (some ad))=>some ad.block
  |_=>none)=some b
theorem DpOK.shape{G:Gh}{r:List Nat}{xs:List (E2 r t).T}{x:Nat}{wr:Bool}(p:DpOK fr w G k (id::r) t xs x h wr):
 ∃a d,G.val k 0=some (.slice a xs.length d)/\xs.length<=281474976710656:=by
 cases wr with
 |true=>
  obtain⟨h0,_,v,y,bs,h1,_,_,_,⟨v',j,_,e⟩,_⟩:=p;have l:v=v':=(AC.1 j);subst l;rcases e with⟨e,_⟩|⟨_,rfl,m,_⟩|⟨_,b,o,d,cells,s,rfl,m,_⟩
  .grind
  .grind
  .exact⟨_,d,h1,m.2⟩
 |false=>obtain⟨v,h1,a,d,j,e,_⟩:=p;have l:v=_:=(AC.1 j);subst l;exact⟨a,d,h1,e.2⟩
theorem DpOK.rel{G:Gh}{ids:List Nat}{x:(E2 ids t).T}{b:Nat}(a:DpOK fr w G k ids t x b h false):
 ∃v,G.val k 0=some v/\Rel w G.im (E2 ids t) x [v]:=by
 cases ids with
 |nil=>exact absurd a id
 |cons id r=>exact a
def holds(a:Act)(tk:List (Nat×Bool)):Prop:=∀t∈tk,a.tmps.getD t.1 undef=.bool t.2
def SlotOK(P:Program)(w:World)(G:Gh)(a:Act):SV->Value->Prop
 | .grd tk g s,v=>(holds a tk->g=true/\SR P w G s v)/\(¬holds a tk->v=undef)
 |s,v=>SR P w G s v
structure Sim(P:Program)(fr:Fr)(free:Nat->Prop)(sl:Nat->SV)(σ:SSo)(a:Act)(w:World)(G:Gh):Prop where
 slots:∀t,SlotOK P w G a (sl t) (a.tmps.getD t undef)
 defs:a.defers=[]
 objs:∀k o,σ k=some o->ObjOK P fr w G k o
 sep:∀j k o o' b,σ j=some o->σ k=some o'->Bk G j o b->Bk G k o' b->j=k
 after:After fr.gv fr.w0 fr.i0 w G.im
 fresh:∀k,free k->σ k=none/\G.ety k=none/\G.box k=none/\∀g,G.val k g=none
section
variable{P:Program}{w:World}{G:Gh}{I:Im}
theorem Rel.cast{u:Ty}{x:t.T}{y:u.T}(h:Ty.cast? t u x=some y)(a:Rel w I t x cs):Rel w I u y cs:=by grind[Ty.cast?_some]
def VRel.cast{u:Ty}{x:t.T}{y:u.T}{v:Value}(h:Ty.cast? t u x=some y)(a:VRel w I t x v):VRel w I u y v:=by grind[Ty.cast?_some]
theorem Rel.iface_dflt:∀{t:Ty},t.isIface=true->Rel w I t t.dflt [.nilIface]:=by
 intro t;induction t with
 |inil=>intro _;rfl
 |ialt i a r d b=>intro h;exact⟨rfl,b h⟩
 |_=>intro h;exact absurd h (by simp[Ty.isIface])
def AEz{v:Value}(h:t.isIface=true):KJ t v [v]:=by cases t<;>first|rfl|(simp[Ty.isIface]at h)
theorem KK{x:t.T}{v:Value}(a:s.as t=some x)(J:SR P w G s v):VRel w G.im t x v:=by
 obtain⟨c,h1,j⟩:=J;cases s with
 |val u y=>exact VRel.cast a ⟨c,h1,j⟩
 |nilS=>
  cases t with
  |slice e=>have l:x=([]:List e.T):=(A2 a).symm;subst l;refine⟨c,h1,?_⟩;rw[show c=_ from j];exact⟨none,0,rfl,⟨AD _,AS _⟩,λ_=>⟨rfl,rfl⟩,λad h=>oq⟩
  |_=>simp[SV.as]at a
 |nilP=>
  cases t with
  |ptr e=>have l:x=(none:Option e.T):=(A2 a).symm;subst l;exact⟨c,h1,j⟩
  |_=>simp[SV.as]at a
 |nilM=>
  cases t with
  |map k v=>have l:x=([]:List (k.T×v.T)):=(A2 a).symm;subst l;refine⟨c,h1,[],⟨.refl _,AW⟩,none,j,λ_=>rfl,λb h=>oq⟩
  |_=>simp[SV.as]at a
 |nilI=>
  simp only[SV.as]at a;split at a
  .rename_i hi;simp only[AK]at a;subst a;have p:c=[v]:=h1;have m:c=[.nilIface]:=j;rw[p]at m;injection m with A _;subst A;exact⟨_,AEz hi,Rel.iface_dflt hi⟩
  .cases a
 |ref u y=>
  cases t with
  |ptr e=>
   simp only[SV.as]at a;cases B:Ty.cast? u e y with
   |none=>rw[B]at a;cases a
   |some z=>rw[B]at a;have l:x=(some z:Option e.T):=(A2 a).symm;subst l;obtain⟨ad,d,A,D,E,H⟩:=j;obtain⟨C,I⟩:=Ty.cast?_some B;subst C;subst I;exact⟨c,h1,ad,A,D,d,E,H⟩
  |_=>simp[SV.as]at a
 |nns e y=>exact VRel.cast a ⟨c,h1,j.1⟩
 |mns e y=>exact VRel.cast a ⟨c,h1,j.1⟩
 |_=>simp[SV.as]at a
theorem VE{el:Nat}{xs:List t.T}{v:Value}(h:SlOK fr w I el t xs false v):Rel w I (.slice t) xs [v]:=by
 rcases h with⟨rfl,rfl⟩|⟨b,a,cs,rfl,h1,m,z,l,_,_,p,_⟩
 .exact⟨none,0,rfl,⟨AD _,AS _⟩,λ_=>⟨rfl,rfl⟩,λad h=>oq⟩
 .refine⟨some ⟨b,0,none⟩,a,rfl,h1,(λh=>oq),λad d=>?_⟩;cases d;refine⟨λ_=>rfl,λi x e=>⟨_,⟨?_,λj y=>?_⟩,l i x e⟩⟩
  .exact(l i x e).length
  .have hi:i<xs.length:=(A3.1 e).1;have s:i*t.sz+j<xs.length*t.sz:=by have:(i+1)*t.sz<=xs.length*t.sz:=AT _ hi;rw[C8]at this;omega
   refine⟨(p rfl _).1 (by simpa using s),?_⟩;rw[B3,if_pos y,B9,<-m.cell];simp
theorem AF0{a b:Ty}{m:List (a.T×b.T)}{v:Value}(h:A1q fr w I a b m false v):Rel w I (.map a b) m [v]:=by obtain⟨p,C,s,j,d,rfl,h1,y,z,A,_⟩:=h;refine⟨p,C,some s,rfl,(λh=>oq),λE l=>?_⟩;cases l;exact⟨A.2 rfl,j,d,h1,y,λi x e D B=>z i x e D B⟩
theorem A1r(m:∀k o,σ k=some o->ObjOK P fr w G k o){x:t.T}{v:Value}
 (j:QV σ k g t=some x)(B:G.val k g=some v):Rel w G.im t x [v]:=by
 unfold QV at j;split at j
 .rename_i id e D y wr hk;split at j
  .rename_i h;simp only[A5,BE]at h;have d:=A4 h.1;subst d;have l:wr=false:=h.2;subst l;have⟨_,v',h1,p⟩:=m k _ hk;grind[Rel.cast,VE]
  .cases j
 .rename_i a b s wr hk;split at j
  .rename_i h;simp only[A5,BE]at h;have d:=A4 h.1;subst d;have l:wr=false:=h.2;subst l;have⟨v',h1,p⟩:=m k _ hk;grind[Rel.cast,AF0]
  .cases j
 .rename_i id r e C z A wr hk;split at j
  .rename_i h;simp only[A5,BE]at h;have d:=A4 h.1;subst d;have l:wr=false:=h.2;subst l;have⟨v',h1,p⟩:=m k _ hk;grind[Rel.cast]
  .cases j
 .cases j
theorem A1s{a b:Ty}{d:List (a.T×b.T)}{u:Ty}{y:u.T}{v:Value}(h:Ty.cast? (.map a b) u d=some y):KJ u v [v]:=by obtain⟨e,_⟩:=Ty.cast?_some h;subst e;rfl
theorem A1t{xs:List t.T}{u:Ty}{y:u.T}{v:Value}(h:Ty.cast? (.slice t) u xs=some y):KJ u v [v]:=by obtain⟨e,_⟩:=Ty.cast?_some h;subst e;rfl
def AF1{x:t.T}{v:Value}(h:QV σ k g t=some x):KJ t v [v]:=by grind[QV,A1t,A1s,hk,E2]
def A1u(h:∀k g,s≠.obj k g):s.asV σ t=s.as t:=by cases s<;>first|rfl|grind
def K0(m:∀k o,σ k=some o->ObjOK P fr w G k o){x:t.T}{v:Value}
 (d:s.asV σ t=some x)(j:SR P w G s v):VRel w G.im t x v:=by
 cases s with
 |obj k g=>obtain⟨c,h1,v',l,_,e⟩:=j;have b:c=[v]:=h1;rw[b]at e;injection e with h4 _;subst h4;have a:QV σ k g t=some x:=d;exact⟨_,AF1 a,A1r m a l⟩
 |_=>rw[A1u (by intro k g h;cases h)]at d;exact KK d j
def A1v{x:t.T}(h:s.as t=some x)(b:CR P w G s cs):Rel w G.im t x cs:=by
 cases s with
 |val u y=>exact Rel.cast h b
 |nilS=>
  have j:cs=[.slice none 0 0]:=b;have⟨c,h1,a⟩:=KK (P:=P) (w:=w) (G:=G) h (v:=.slice none 0 0) ⟨_,rfl,rfl⟩;cases t with
  |slice e=>subst j;rw[show c=[_]from h1]at a;exact a
  |_=>simp[SV.as]at h
 |nilP=>
  have j:cs=[.pointer none]:=b;have⟨c,h1,a⟩:=KK (P:=P) (w:=w) (G:=G) h (v:=.pointer none) ⟨_,rfl,rfl⟩;cases t with
  |ptr e=>subst j;rw[show c=[_]from h1]at a;exact a
  |_=>simp[SV.as]at h
 |nilM=>
  have j:cs=[.map none]:=b;have⟨c,h1,a⟩:=KK (P:=P) (w:=w) (G:=G) h (v:=.map none) ⟨_,rfl,rfl⟩;cases t with
  |map k v=>subst j;rw[show c=[_]from h1]at a;exact a
  |_=>simp[SV.as]at h
 |nilI=>have j:cs=[.nilIface]:=b;grind[SV.as,Option.some.injEq,Rel.iface_dflt]
 |ref u y=>
  obtain⟨ad,d,l,m,p,z⟩:=b;have⟨c,h1,a⟩:=KK (P:=P) (w:=w) (G:=G) h (v:=.pointer (some ad)) ⟨_,rfl,ad,d,rfl,m,p,z⟩;cases t with
  |ptr e=>subst l;rw[show c=[_]from h1]at a;exact a
  |_=>simp[SV.as]at h
 |nns e y=>exact Rel.cast h b.1
 |mns e y=>exact Rel.cast h b.1
 |_=>simp[SV.as]at h
def AF2(e:∀k o,σ k=some o->ObjOK P fr w G k o){x:t.T}
 (a:s.asV σ t=some x)(b:CR P w G s cs):Rel w G.im t x cs:=by
 cases s with
 |obj k g=>obtain⟨v,h1,_,d⟩:=b;rw[d];exact A1r e a h1
 |_=>rw[A1u (by intro k g h;cases h)]at a;exact A1v a b
def VF{u:Ty}{y:u.T}{x:p.T}(h:NK u p y=some x)(a:Rel w I u y cs):Rel w I p x cs:=by
 cases u with
 |agg q=>exact Rel.cast (t:=q) h a
 |_=>exact Rel.cast h a
def AF3(h:∀u x,s≠.val u x):s.asL σ t=s.asV σ t:=by cases s<;>first|rfl|grind
def AF4(d:∀k o,σ k=some o->ObjOK P fr w G k o){x:t.T}
 (a:s.asL σ t=some x)(b:CR P w G s cs):Rel w G.im t x cs:=by
 cases s with
 |val u y=>exact VF (p:=t) a b
 |_=>rw[AF3 (by intro k g h;cases h)]at a;exact AF2 d a b
def eH{u:Ty}{y:u.T}{x:t.T}(h:OI u t y=some x)(a:Rel w I u y cs):Rel w I t x cs:=by
 unfold OI at h;split at h
 .rename_i p;split at h
  .rename_i d b;cases h;exact Rel.cast b a
  .exact show Rel w I p x cs from Rel.cast h a
 .exact VF h a
def YQ(A:∀k o,σ k=some o->ObjOK P fr w G k o):∀{t:Ty} {s:SV} {x:t.T} {cs:List Value},
 s.asC σ t=some x->CR P w G s cs->Rel w G.im t x cs:=by
 intro t;induction t with
 |prod a b j l=>
  intro s x cs h e;simp only[SV.asC]at h;split at h
  .split at h
   .rename_i p q B C;have D:=A2 h;subst D;obtain⟨c,d,h1,m,z⟩:=e;exact⟨c,d,h1,j B m,l C z⟩
   .cases h
  .exact VF (p:=.prod a b) h e
  .exact A1v h e
 |agg p E=>
  intro s x cs h e;simp only[SV.asC]at h;show Rel w G.im p x cs;cases s with
  |val u y=>exact VF (p:=p) h e
  |_=>exact E h e
 |_=>intro s x cs h e;exact AF4 A h e
theorem Fit.len:∀{c:SV} {t:Ty} {cs:List Value},Fit c t->CR P w G c cs->cs.length=t.sz:=by
 intro c;induction c with
 |val u y=>intro t cs j l;have h1:u.bare=t.bare:=j;rw[Rel.length (show Rel w G.im u y cs from l),<-Ty.sz_bare,h1,Ty.sz_bare]
 |pr a b s z=>intro t cs j l;obtain⟨x,y,h1,A,B⟩:=j;obtain⟨c,d,C,D,E⟩:=l;rw[C,AI,s A D,z B E,<-Ty.sz_bare t,h1];rfl
 |obj k g=>intro t cs j l;obtain⟨v,_,_,h⟩:=l;rw[h];exact(show t.sz=1 from j).symm
 |ptr k p u=>intro t cs j l;obtain⟨b,H,o,_,_,_,h⟩:=l;rw[h];exact(show t.sz=1 from j).symm
 |nilS=>intro t cs j l;rw[show cs=_ from l];exact(show t.sz=1 from j).symm
 |slf k=>intro t cs j l;obtain⟨b,H,_,h⟩:=l;rcases h with h|h<;>(rw[h];exact(show t.sz=1 from j).symm)
 |fn f c=>intro t cs j l;obtain⟨I,h,_⟩:=l;rw[h];exact(show t.sz=1 from j).symm
 |hof d c F=>intro t cs j l;obtain⟨f,I,h,_⟩:=l;rw[h];exact(show t.sz=1 from j).symm
 |nns e x=>intro t cs j l;obtain⟨_,ad,n,m,h⟩:=l;rw[h];exact(show t.sz=1 from j).symm
 |mns e x=>intro t cs j l;obtain⟨_,ad,n,m,h,_⟩:=l;rw[h];exact(show t.sz=1 from j).symm
 |_=>intro t cs j;exact absurd j (by simp[Fit])
theorem Ty.off_bare(t:Ty)(i:Bool)(r:List Bool):t.off (i::r)=t.bare.off (i::r):=by cases t<;>rfl
theorem Ty.sub_bare(t:Ty)(i:Bool)(r:List Bool):t.sub (i::r)=t.bare.sub (i::r):=by cases t<;>rfl
def sU{c x y:SV}(m:Fit c t)(p:CR P w G c cs)(h:c.halves=some (x,y)):
 ∃tx ty c1 c2,t.bare=.prod tx ty/\Fit x tx/\Fit y ty/\cs=c1++c2/\CR P w G x c1/\CR P w G y c2/\c1.length=tx.sz/\c2.length=ty.sz:=by
 cases c with
 |pr a b=>simp only[SV.halves,AK,D5]at h;obtain⟨rfl,rfl⟩:=h;obtain⟨u,v,h1,s,A⟩:=m;obtain⟨c,d,l,e,j⟩:=p;exact⟨u,v,c,d,h1,s,A,l,e,j,s.len e,A.len j⟩
 |val u z=>
  cases u with
  |prod a b=>simp only[SV.halves,AK,D5]at h;obtain⟨rfl,rfl⟩:=h;obtain⟨c,d,l,e,j⟩:=p;exact⟨a,b,c,d,(show(Ty.prod a b).bare=t.bare from m).symm,rfl,rfl,l,e,j,e.length,j.length⟩
  |agg q=>
   cases q with
   |prod a b=>simp only[SV.halves,AK,D5]at h;obtain⟨rfl,rfl⟩:=h;have⟨c,d,l,e,j⟩:=(show Rel w G.im (.prod a b) z cs from p);exact⟨a,b,c,d,(show(Ty.agg (.prod a b)).bare=t.bare from m).symm,rfl,rfl,l,e,j,e.length,j.length⟩
   |_=>simp[SV.halves]at h
  |_=>simp[SV.halves]at h
 |_=>simp[SV.halves]at h
def sV(h:o+n<=c1.length):((c1++c2).drop o).take n=(c1.drop o).take n:=by rw[List.drop_append_of_le_length oa,List.take_append_of_le_length ot]
theorem eI:((c1++c2).drop (c1.length+o)).take n=(c2.drop o).take n:=by simp
def YR:∀{p:List Bool} {c s:SV} {t:Ty} {cs:List Value},Fit c t->CR P w G c cs->c.getAt p=some s->
 ∃o u,t.off p=some o/\t.sub p=some u/\Fit s u/\o+u.sz<=t.sz/\CR P w G s ((cs.drop o).take u.sz):=by
 intro p;induction p with
 |nil=>intro c s t cs a b h;simp only[SV.getAt,AK]at h;subst h;refine⟨0,t,by cases t<;>rfl,by cases t<;>rfl,a,oa,?_⟩;rw[DG,CF (by rw[a.len b];omega)];exact b
 |cons i r l=>
  intro c s t cs a b h;simp only[SV.getAt]at h;cases j:c.halves with
  |none=>grind
  |some H=>
   obtain⟨x,y⟩:=H;rw[j]at h;have⟨tx,ty,c1,c2,h1,m,z,I,A,B,J,K⟩:=sU a b j;have C:t.sz=tx.sz+ty.sz:=by rw[<-Ty.sz_bare,h1];rfl
   cases i with
   |false=>have⟨o,u,k1,d,e,D,E⟩:=l m A h;refine⟨o,u,by rw[Ty.off_bare,h1];exact k1,by rw[Ty.sub_bare,h1];exact d,e,oa,?_⟩;grind
   |true=>have⟨o,u,k1,d,e,D,E⟩:=l z B h;refine⟨tx.sz+o,u,by grind[Ty.off_bare,Ty.off],by rw[Ty.sub_bare,h1];exact d,e,oa,?_⟩;grind[eI]
def EY(cs:List Value)(o:Nat)(ds:List Value):List Value:=cs.take o++(ds++cs.drop (o+ds.length))
theorem A1w(h:o+ds.length<=c1.length):EY (c1++c2) o ds=EY c1 o ds++c2:=by unfold EY;grind
theorem A1x:EY (c1++c2) (c1.length+o) ds=c1++EY c2 o ds:=by simp_all[EY,List.take_append,CF,List.drop_append,DI,CN]
theorem MB(h:o+ds.length<=cs.length):(EY cs o ds).length=cs.length:=by grind[EY]
def sW:∀{p:List Bool} {c c' s:SV} {t u:Ty} {cs ds:List Value} {o:Nat},Fit c t->CR P w G c cs->c.setAt p s=some c'->
 t.off p=some o->t.sub p=some u->Fit s u->CR P w G s ds->
 Fit c' t/\o+u.sz<=t.sz/\CR P w G c' (EY cs o ds):=by
 intro p;induction p with
 |nil=>
  intro c c' s t u cs ds o l m a e j h b;simp only[SV.setAt,AK]at a;subst a;have z:t=u:=by cases t<;>exact A2 j
  subst z;have d:0=o:=by cases t<;>exact A2 e
  subst d;refine⟨h,oa,?_⟩;have:EY cs 0 ds=ds:=by unfold EY;rw[DI (by rw[l.len m,h.len b];omega)];simp
  grind
 |cons i r K=>
  intro c c' s t u cs ds o l m a e j h b;simp only[SV.setAt]at a;cases H:c.halves with
  |none=>grind
  |some R=>
   obtain⟨x,y⟩:=R;rw[H]at a;have⟨tx,ty,c1,c2,h1,B,C,L,D,E,M,T⟩:=sU l m H;have O:t.sz=tx.sz+ty.sz:=by rw[<-Ty.sz_bare,h1];rfl
   rw[Ty.off_bare,h1]at e;rw[Ty.sub_bare,h1]at j;have N:=h.len b;cases i with
   |false=>
    simp only[A8]at a;cases I:x.setAt r s with
    |none=>grind
    |some V=>rw[I]at a;simp only[BH,AK]at a;subst a;have⟨k1,Q,A⟩:=K B D I e j h b;refine⟨⟨tx,ty,h1,k1,C⟩,oa,_,_,?_,A,E⟩;grind[A1w]
   |true=>
    simp only[A6]at a;cases J:y.setAt r s with
    |none=>grind
    |some W=>
     rw[J]at a;simp only[BH,AK]at a;subst a;simp only[Ty.off,A6]at e;cases d:ty.off r with
     |none=>grind
     |some U=>rw[d]at e;simp only[BH,AK]at e;subst e;have⟨k1,Q,A⟩:=K C E J d j h b;refine⟨⟨tx,ty,h1,B,k1⟩,oa,_,_,?_,D,A⟩;rw[L,<-M,A1x]
def eJ:∀{t:Ty} {p:List Bool} {x:t.T} {u:Ty} {y:u.T} {cs:List Value},Rel w I t x cs->Ty.at t p x=some ⟨u,y⟩->
 ∃o,t.off p=some o/\t.sub p=some u/\o+u.sz<=t.sz/\Rel w I u y ((cs.drop o).take u.sz):=by
 intro t
 have base:∀{t:Ty} {x:t.T} {u:Ty} {y:u.T} {cs:List Value},Rel w I t x cs->(some ⟨t,x⟩:Option ((u:Ty)×u.T))=some ⟨u,y⟩->
  ∃o,t.off []=some o/\t.sub []=some u/\o+u.sz<=t.sz/\Rel w I u y ((cs.drop o).take u.sz):=by
  intro t x u y cs d h;cases h;refine⟨0,by cases t<;>rfl,by cases t<;>rfl,oa,?_⟩;rw[DG,CF (by rw[d.length];omega)];exact d
 have step:∀ {a b:Ty} (e:∀ {p:List Bool} {x:a.T} {u:Ty} {y:u.T} {cs:List Value},Rel w I a x cs->Ty.at a p x=some ⟨u,y⟩ ->
  ∃o,a.off p=some o/\a.sub p=some u/\o+u.sz<=a.sz/\Rel w I u y ((cs.drop o).take u.sz))
  (j:∀ {p:List Bool} {x:b.T} {u:Ty} {y:u.T} {cs:List Value},Rel w I b x cs->Ty.at b p x=some ⟨u,y⟩ ->
   ∃o,b.off p=some o/\b.sub p=some u/\o+u.sz<=b.sz/\Rel w I u y ((cs.drop o).take u.sz))
  {i:Bool} {r:List Bool} {x:a.T×b.T} {u:Ty} {y:u.T} {cs:List Value},Rel w I (.prod a b) x cs->
  (bif i then Ty.at b r x.2 else Ty.at a r x.1)=some ⟨u,y⟩->
  ∃o,(Ty.prod a b).off (i::r)=some o/\(Ty.prod a b).sub (i::r)=some u/\o+u.sz<=(Ty.prod a b).sz/\Rel w I u y ((cs.drop o).take u.sz):=by
  intro a b e j i r x u y cs d h;obtain⟨c1,c2,h1,s,B⟩:=d;have C:(Ty.prod a b).sz=a.sz+b.sz:=rfl;cases i with
  |false=>have⟨o,k1,l,z,m⟩:=e s h;refine⟨o,k1,l,oa,?_⟩;rw[h1,sV (by rw[s.length];omega)];exact m
  |true=>have⟨o,k1,l,z,m⟩:=j B h;refine⟨a.sz+o,by simp[Ty.off,k1],l,oa,?_⟩;rw[h1,<-s.length,eI];exact m
 induction t with
 |prod a b e j=>
  intro p x u y cs d h;cases p with
  |nil=>exact base d h
  |cons i r=>exact step e j d h
 |agg q D=>
  intro p x u y cs d h;cases p with
  |nil=>exact base d h
  |cons i r=>
   cases q with
   |prod a b=>have A:Ty.at (.prod a b) (i::r) x=some ⟨u,y⟩:=h;have⟨o,k1,l,z,m⟩:=D (p:=i::r) (show Rel w I (.prod a b) x cs from d) A;exact⟨o,k1,l,z,m⟩
   |_=>simp[Ty.at]at h
 |_=>
  intro p x u y cs d h;cases p with
  |nil=>exact base d h
  |cons i r=>simp[Ty.at]at h
def eK:∀{t:Ty} {p:List Bool} {x z:t.T} {u:Ty} {y:u.T} {cs ds:List Value} {o:Nat},Rel w I t x cs->Ty.put t p x u y=some z->
 t.off p=some o->Rel w I u y ds->t.sub p=some u/\o+u.sz<=t.sz/\Rel w I t z (EY cs o ds):=by
 intro t
 have base:∀{t:Ty} {x z:t.T} {u:Ty} {y:u.T} {cs ds:List Value} {o:Nat},Rel w I t x cs->Ty.cast? u t y=some z->t.off []=some o->Rel w I u y ds->
  t.sub []=some u/\o+u.sz<=t.sz/\Rel w I t z (EY cs o ds):=by
  intro t x z u y cs ds o l h d j;have m:0=o:=by cases t<;>exact A2 d
  subst m;have D:=Rel.cast h j;obtain⟨e,N⟩:=Ty.cast?_some h;subst e;refine⟨by cases u<;>rfl,oa,?_⟩
  have:EY cs 0 ds=ds:=by unfold EY;rw[DI (by rw[l.length,j.length];omega)];simp
  rw[this];exact D
 have step:∀ {a b:Ty} (s:∀ {p:List Bool} {x z:a.T} {u:Ty} {y:u.T} {cs ds:List Value} {o:Nat},Rel w I a x cs->Ty.put a p x u y=some z ->
  a.off p=some o->Rel w I u y ds->a.sub p=some u/\o+u.sz<=a.sz/\Rel w I a z (EY cs o ds))
  (A:∀ {p:List Bool} {x z:b.T} {u:Ty} {y:u.T} {cs ds:List Value} {o:Nat},Rel w I b x cs->Ty.put b p x u y=some z ->
   b.off p=some o->Rel w I u y ds->b.sub p=some u/\o+u.sz<=b.sz/\Rel w I b z (EY cs o ds))
  {i:Bool} {r:List Bool} {x z:a.T×b.T} {u:Ty} {y:u.T} {cs ds:List Value} {o:Nat},Rel w I (.prod a b) x cs->
  (bif i then(Ty.put b r x.2 u y).map (λz=>(x.1,z))else(Ty.put a r x.1 u y).map (λz=>(z,x.2)))=some z->
  (Ty.prod a b).off (i::r)=some o->Rel w I u y ds->
  (Ty.prod a b).sub (i::r)=some u/\o+u.sz<=(Ty.prod a b).sz/\Rel w I (.prod a b) z (EY cs o ds):=by
  intro a b s A i r x z u y cs ds o l h d j;obtain⟨c1,c2,h1,C,G⟩:=l;have K:(Ty.prod a b).sz=a.sz+b.sz:=rfl;have J:=j.length;cases i with
  |false=>
   simp only[A8]at h;cases B:Ty.put a r x.1 u y with
   |none=>grind
   |some q=>rw[B]at h;simp only[BH,AK]at h;subst h;have⟨k1,M,E⟩:=s C B d j;refine⟨k1,oa,_,_,?_,E,G⟩;rw[h1,A1w (by rw[C.length];omega)]
  |true=>
   simp only[A6]at h;cases B:Ty.put b r x.2 u y with
   |none=>grind
   |some q=>
    rw[B]at h;simp only[BH,AK]at h;subst h;simp only[Ty.off,A6]at d;cases m:b.off r with
    |none=>grind
    |some O=>rw[m]at d;simp only[BH,AK]at d;subst d;have⟨k1,M,E⟩:=A G B m j;refine⟨k1,oa,_,_,?_,C,E⟩;rw[h1,<-C.length,A1x]
 induction t with
 |prod a b s A=>
  intro p x z u y cs ds o l h d j;cases p with
  |nil=>exact base l h d j
  |cons i r=>exact step s A l h d j
 |agg q L=>
  intro p x z u y cs ds o l h d j;cases p with
  |nil=>exact base l h d j
  |cons i r=>
   cases q with
   |prod a b=>have H:Ty.put (.prod a b) (i::r) x u y=some z:=h;exact L (p:=i::r) (show Rel w I (.prod a b) x cs from l) H d j
   |_=>simp[Ty.put]at h
 |_=>
  intro p x z u y cs ds o l h d j;cases p with
  |nil=>exact base l h d j
  |cons i r=>simp[Ty.put]at h
end
section
variable{P:Program}{w:World}{I:Im}
def YS(k:IntKind):FZ k 0:=by cases k<;>exact⟨oi,oi⟩
def A1y:∀{t:Ty} {l r:List Value},zc t l=some r->∃c,l=c++r/\Rel w I t t.dflt c:=by
 intro t;induction t with
 |unit=>intro l r h;exact⟨[],by simpa[zc]using h,rfl⟩
 |bool=>
  intro l r h;simp only[zc]at h;split at h
  .cases h;exact⟨[_],rfl,rfl⟩
  .cases h
 |int k=>
  intro l r h;simp only[zc]at h;split at h
  .split at h
   .rename_i p;cases h;simp only[A5,CI]at p;have:=UR p.1;subst this;exact⟨[_],rfl,by rw[p.2];rfl,YS k⟩
   .cases h
  .cases h
 |str=>
  intro l r h;simp only[zc]at h;split at h
  .rename_i s Q;split at h
   .rename_i p;cases h;have h0:s.data= #[]:=by have:=CI.1 p;rw[List.length_eq_zero_iff]at this;exact Array.toList_eq_nil_iff.1 this
    have J:s=⟨#[]⟩:=by cases s;simp only at h0;rw[h0]
    exact⟨[_],rfl,by rw[J];rfl,by simp[Ty.dflt]⟩
   .cases h
  .cases h
 |slice e m=>
  intro l r h;simp only[zc]at h;split at h
  .cases h;exact⟨[_],rfl,none,0,rfl,⟨AD _,AS _⟩,λ_=>⟨rfl,rfl⟩,λad h=>oq⟩
  .cases h
 |agg t m=>intro l r h;exact m h
 |prod a b E G=>
  intro l r h;simp only[zc]at h;split at h
  .rename_i q B;have⟨c,h1,j⟩:=E B;have⟨d,A,z⟩:=G h;exact⟨c++d,by rw[h1,A,C1],c,d,rfl,j,z⟩
  .cases h
 |arr n e m=>
  have key:∀(n:Nat) (l r:List Value),Nat.rec (motive:=λ_=>List Value->Option (List Value)) some (λ_ m l=>match zc e l with|some r=>m r|none=>none) n l=some r->
   ∃c,l=c++r/\Rel w I (.arr n e) (List.replicate n e.dflt) c:=by
   intro n;induction n with
   |zero=>intro l r h;cases h;exact⟨[],rfl,rfl,oh,λi x y=>by simp at y⟩
   |succ n H=>
    intro l r h;simp only at h;split at h
    .rename_i q B;have⟨c,h1,j⟩:=m B;have⟨d,A,z⟩:=H _ _ h;refine⟨c++d,by rw[h1,A,C1],oh,?_,λi x y=>?_⟩
     .rw[AI,j.length,z.2.1,C8,Nat.add_comm]
     .cases i with
      |zero=>simp[List.replicate_succ]at y;subst y;rw[Nat.zero_mul,DG,List.take_append_of_le_length (by rw[j.length];omega),CF (by rw[j.length];omega)];exact j
      |succ i=>
       have D:(List.replicate n e.dflt)[i]?=some x:=by simpa[List.replicate_succ]using y
       have:=z.2.2 i x D;have C:(i+1)*e.sz=c.length+i*e.sz:=by rw[j.length,C8,Nat.add_comm]
       rw[C,eI];exact this
    .cases h
  intro l r h;exact key n l r h
 |ptr e m=>
  intro l r h;simp only[zc]at h;split at h
  .cases h;exact⟨[_],rfl,rfl⟩
  .cases h
 |map k v L O=>
  intro l r h;simp only[zc]at h;split at h
  .cases h;exact⟨[_],rfl,[],⟨.refl _,AW⟩,none,rfl,λ_=>rfl,λb h=>oq⟩
  .cases h
 |inil=>
  intro l r h;simp only[zc]at h;split at h
  .cases h;exact⟨[_],rfl,rfl⟩
  .cases h
 |self=>
  intro l r h;simp only[zc]at h;split at h
  .cases h;exact⟨[_],rfl,rfl⟩
  .cases h
 |opq=>
  intro l r h;simp only[zc]at h;split at h
  .rename_i v Q;split at h
   .rename_i K;cases h;exact⟨[v],rfl,v,rfl,K⟩
   .cases h
  .cases h
 |fnc a b _ _=>
  intro l r h;simp only[zc]at h;split at h
  .cases h;exact⟨[_],rfl,rfl⟩
  .cases h
 |ialt i t q N M=>
  intro l r h;simp only[zc]at h;split at h
  .rename_i hi;split at h
   .cases h;exact⟨[_],rfl,Rel.iface_dflt (t:=.ialt i t q) hi⟩
   .cases h
  .cases h
def Value.cells_of_not_agg{v:Value}(h:∀cs,v≠.agg cs):v.cells= #[v]:=by cases v<;>first|rfl|grind
theorem sX{v:Value}(h:zv t v=true):VRel w I t t.dflt v/\Rel w I t t.dflt v.cells.toList:=by
 have a:∀{t:Ty} {l:List Value},PS t l=true->Rel w I t t.dflt l:=by
  intro t l h;unfold PS at h;split at h
  .rename_i d;have⟨c,h1,j⟩:=A1y (w:=w) (I:=I) d;grind
  .cases h
 cases t with
 |agg t=>
  simp only[zv]at h;split at h
  .rename_i cs;have:=a h;exact⟨⟨_,by simp[KJ],this⟩,this⟩
  .cases h
 |arr n e=>
  simp only[zv]at h;split at h
  .rename_i cs;have:=a h;exact⟨⟨_,by simp[KJ],this⟩,this⟩
  .cases h
 |_=>
  simp only[zv]at h;split at h
  .cases h
  .rename_i b;have h1:=a h;exact⟨⟨_,rfl,h1⟩,by rw[Value.cells_of_not_agg b];exact h1⟩
theorem K4(h:T6 P t id=true):
 ∃i v,P.info? id=some i/\i.size=t.sz/\i.bytes<=24*t.sz/\i.zero=some v/\zv t v=true:=by
 unfold T6 at h;rw[A5]at h;replace h:=h.1;split at h
 .rename_i i hi;simp only[A5]at h;obtain⟨h1,b,a⟩:=h;split at a<;>simp_all
 .cases h
theorem AF5(h:T6 P t id=true)(a:t.same (.agg GS)=true):id<P.types.size:=by simp_all[T6,A1n,A5,BS,C0,BY]
theorem JJ{c:TypeDesc->Bool}(h:(layB.one P t c).1 id=true):T6 P t id=true/\∃d,P.underlying id=some d/\c d=true:=by simp only[layB.one,A5]at h;grind
theorem Lay.inf(h:Lay P t id):T6 P t id=true:=by unfold Lay at h;cases t<;>first|exact(JJ h).1|(simp[layB]at h)
theorem Lay.slice(h:Lay P (.slice e) id):∃el,P.underlying id=some (.slice el)/\Lay P e el/\0<e.sz:=by
 have⟨_,d,b,a⟩:=JJ h;split at a
 .simp only[A5,BY]at a;exact⟨_,b,a.1,a.2⟩
 .cases a
theorem Lay.agg(h:Lay P (.agg p) id):∃fs,P.underlying id=some (.struct fs)/\(layB P p).2 fs.toList 0=true/\0<p.sz:=by have⟨_,d,b,a⟩:=JJ h;split at a<;>simp_all
theorem Lay.arr(h:Lay P (.arr n e) id):∃el,P.underlying id=some (.array n el)/\Lay P e el/\0<e.sz/\1<n:=by
 have⟨_,d,b,a⟩:=JJ h;split at a
 .simp only[A5,BY]at a;have:=A4 a.1;subst this;exact⟨_,b,a.2.1,a.2.2.1,a.2.2.2⟩
 .cases a
theorem Lay.map{k v:Ty}(h:Lay P (.map k v) id):∃a b,P.underlying id=some (.map a b)/\Lay P k a/\Lay P v b:=by
 have⟨_,d,j,e⟩:=JJ h;split at e
 .simp only[A5]at e;exact⟨_,_,j,e.1,e.2⟩
 .cases e
theorem Lay.ptr(h:Lay P (.ptr e) id):∃el,P.underlying id=some (.pointer el)/\Lay P e el:=by
 have⟨_,d,b,a⟩:=JJ h;split at a
 .exact⟨_,b,a⟩
 .cases a
theorem Lay.int{k:IntKind}(h:Lay P (.int k) id):P.underlying id=some (.int k):=by have⟨_,d,b,a⟩:=JJ h;grind[UR]
theorem Lay.self(h:Lay P .self id):∃el,P.underlying id=some (.pointer el):=by have⟨_,d,b,a⟩:=JJ h;grind
theorem Lay.opq(h:Lay P .opq id):∃d,P.underlying id=some d/\∀ms,d≠.interface ms:=by have⟨_,d,b,a⟩:=JJ h;grind
theorem Lay.fnc{a b:Ty}(h:Lay P (.fnc a b) id):∃d,P.underlying id=some d/\∀ms,d≠.interface ms:=by have⟨_,d,j,e⟩:=JJ h;grind
theorem Lay.str(h:Lay P .str id):P.underlying id=some .string:=by have⟨_,d,b,a⟩:=JJ h;grind
theorem Lay.bool(h:Lay P .bool id):P.underlying id=some .bool:=by have⟨_,d,b,a⟩:=JJ h;grind
theorem Lay.iface(h:Lay P t id)(hi:t.isIface=true):∃ms,P.underlying id=some (.interface ms):=by
 cases t with
 |inil=>have⟨_,d,e,b⟩:=JJ h;grind
 |ialt i a r=>have⟨_,d,e,b⟩:=JJ h;grind
 |_=>simp[Ty.isIface]at hi
def Ty.isAgg:Ty->Bool
 | .agg _=>true
 | .arr _ _=>true
 |_=>false
theorem Lay.isAgg(h:Lay P t id):∃d,P.underlying id=some d/\(match d with| .struct _| .array _ _=>true|_=>false)=t.isAgg:=by
 cases t with
 |agg p=>obtain⟨fs,h1,_⟩:=h.agg;exact⟨_,h1,rfl⟩
 |arr n e=>obtain⟨el,h1,_⟩:=h.arr;exact⟨_,h1,rfl⟩
 |prod a b=>simp[Lay,layB]at h
 |unit=>simp[Lay,layB]at h
 |slice e=>obtain⟨el,h1,_⟩:=h.slice;exact⟨_,h1,rfl⟩
 |map k v=>obtain⟨a,b,h1,_⟩:=h.map;exact⟨_,h1,rfl⟩
 |ptr e=>obtain⟨el,h1,_⟩:=h.ptr;exact⟨_,h1,rfl⟩
 |bool=>exact⟨_,h.bool,rfl⟩
 |int k=>exact⟨_,h.int,rfl⟩
 |str=>exact⟨_,h.str,rfl⟩
 |inil=>have⟨ms,h1⟩:=h.iface rfl;exact⟨_,h1,rfl⟩
 |self=>
  have⟨_,d,l,j⟩:=JJ h;split at j
  .exact⟨_,l,rfl⟩
  .cases j
 |opq=>have⟨_,d,l,j⟩:=JJ h;split at j<;>first|exact⟨_,l,rfl⟩|cases j
 |fnc a b=>
  have⟨_,d,l,j⟩:=JJ h;split at j
  .exact⟨_,l,rfl⟩
  .cases j
 |ialt i a r=>
  have⟨_,d,l,j⟩:=JJ h;split at j
  .exact⟨_,l,rfl⟩
  .cases j
theorem YT:∀{p:Ty} {l:List Field} {off:Nat},(layB P p).2 l off=true->l.length=p.fields/\∀f F,l[f]?=some F->
 ∃u o,p.sub (GK p.fields f)=some u/\p.off (GK p.fields f)=some o/\F.offset=off+o/\Lay P u F.type:=by
 intro p
 have leaf:∀{t:Ty} {c:TypeDesc->Bool} {l:List Field} {off:Nat},t.fields=1->(∀id,(layB.one P t c).1 id=true->Lay P t id)->
  (layB.one P t c).2 l off=true->l.length=t.fields/\∀f F,l[f]?=some F->
   ∃u o,t.sub (GK t.fields f)=some u/\t.off (GK t.fields f)=some o/\F.offset=off+o/\Lay P u F.type:=by
  intro t c l off h1 D h;simp only[layB.one]at h;split at h
  .rename_i g;simp only[A5]at h;have C:=A4 h.1;refine⟨by rw[h1];rfl,λf F d=>?_⟩;have e:f=0/\g=F:=by
    cases f with
    |zero=>grind
    |succ f=>simp at d
   obtain⟨rfl,rfl⟩:=e;rw[h1];refine⟨t,0,by cases t<;>rfl,by cases t<;>rfl,oa,D _ ?_⟩;simp_all[layB.one,A5]
  .cases h
 induction p with
 |prod a b E j=>
  intro l off h;simp only[layB]at h;split at h
  .rename_i g r;simp only[A5]at h;obtain⟨h1,w,x,y⟩:=h;have C:=A4 h1;have B:0<b.fields:=by rwa[BY]at y
   have⟨k1,G⟩:=j x;refine⟨by simp[Ty.fields,k1],λf F d=>?_⟩;have A:∃m,b.fields=m:=⟨_,rfl⟩;obtain⟨m,s⟩:=A;cases m with
   |zero=>omega
   |succ m=>
    cases f with
    |zero=>
     have z:g=F:=by simpa using d
     subst z;refine⟨a,0,?_,?_,oa,w⟩
     .simp only[Ty.fields,s,GK,Ty.sub,A8]
     .simp only[Ty.fields,s,GK,Ty.off,A8]
    |succ f=>
     have⟨u,o,I,J,K,H⟩:=G f F (by simpa using d);refine⟨u,a.sz+o,?_,?_,oa,H⟩
     .simp_all[Ty.fields,GK,Ty.sub,A6]
     simp_all[Ty.fields,GK,Ty.off,A6]
  .cases h
 |unit=>
  intro l off h;simp only[layB]at h;split at h
  .exact⟨rfl,λf F d=>by simp at d⟩
  .cases h
 |_=>intro l off h;exact leaf rfl (λid h=>h) h
end
structure MemS(P:Program)(fr:Fr)(free:Nat->Prop)(σ:SSo)(w:World)(G:Gh):Prop where
 objs:∀k o,σ k=some o->ObjOK P fr w G k o
 sep:∀j k o o' b,σ j=some o->σ k=some o'->Bk G j o b->Bk G k o' b->j=k
 after:After fr.gv fr.w0 fr.i0 w G.im
 fresh:∀k,free k->σ k=none/\G.ety k=none/\G.box k=none/\∀g,G.val k g=none
def JA(free:Nat->Prop)(self:Nat):Nat->Prop:=λk=>free k/\JQ self k=false
def Res(P:Program)(fr:Fr)(free:Nat->Prop)(self:Nat)(σ:SSo)(w:World)(G:Gh)(u:Upd)(v:Value)(w':World):Prop:=
 ∃G',GLe w G w' G'/\MemS P fr (JA free self) (EF σ u.wr) w' G'/\SR P w' G' u.sv v
inductive Gives:OpRes->Upd->Prop
 |pure (u:Upd):Gives (.pure u) u
 |may {α:Type} {m:Option α} {d:α} {f:α->Upd} {x:α} (h:m=some x):Gives (.may α m d f) (f x)
def Gives.pure_inv{a:Upd}(h:Gives (.pure u) a):a=u:=by cases h;rfl
def Gives.v_inv(h:Gives (.v s) u):u=⟨s,[]⟩:=h.pure_inv
def Gives.may_inv{m:Option α}{d:α}{f:α->Upd}(h:Gives (.may α m d f) u):∃x,m=some x/\u=f x:=by cases h<;>grind
section
variable{P:Program}{fr:Fr}{free:Nat->Prop}{self:Nat}{σ:SSo}{w:World}{G:Gh}
def MemS.shrink{free':Nat->Prop}(h:MemS P fr free σ w G)(a:∀k,free' k->free k):MemS P fr free' σ w G:=
 ⟨h.objs,h.sep,h.after,λk hk=>h.fresh k (a k hk)⟩
def Res.same{v:Value}(a:MemS P fr free σ w G)(b:SR P w G s v):Res P fr free self σ w G ⟨s,[]⟩ v w:=
 ⟨G,GLe.refl _ _,a.shrink λ_ h=>h.1,b⟩
def Done(P:Program)(dr:Bool)(o:Oper)(a:Act)(w:World)(R:Value->World->Prop):Prop:=
 ∀(Q:Exit->Act->World->Prop) (next:Act->World->Prop),(∀v w',R v w'->(dr=true->w.drawn<=w'.drawn)->next (a.put o.dst v) w')->o.wp P a w next Q
def Done.value{o:Oper}{a:Act}{v:Value}(h:(execOp a.eval o).run P w=.ok (.value v) w')(d:R v w'):Done P dr o a w R:=by
 intro Q next b
 unfold Oper.wp;rw[h];exact b v w' d λ_=>rB _ _ _ _ h
def Done.skip{o:Oper}{a:Act}(h:(execOp a.eval o).run P w=.ok .skip w')(d:R undef w'):Done P dr o a w R:=by
 intro Q next b
 unfold Oper.wp;rw[h];exact b undef w' d λ_=>rB _ _ _ _ h
def Done.enter{o:Oper}{a:Act}{f:FuncId}{args:Array Value}
 (h:(execOp a.eval o).run P w=.ok (.enter f args) w')(d:Calls P f args w' λe w''=>∃v,e=.returned v/\R v w''/\(dr=true->w'.drawn<=w''.drawn)):Done P dr o a w R:=by
 intro Q next m
 unfold Oper.wp;rw[h];refine Calls.mono d λe w'' l=>?_;obtain⟨v,rfl,p,j⟩:=l;exact m v w'' p λb=>AM (rB _ _ _ _ h) (j b)
def Done.mono{o:Oper}{a:Act}{R':Value->World->Prop}(h:Done P dr o a w R)(e:∀v w',R v w'->R' v w'):Done P dr o a w R':=
 λQ next d=>h Q next λv w' j b=>d v w' (e v w' j) b
def SR.int{k:IntKind}{n:Int}{v:Value}(h:SR P w G (.val (.int k) n) v):v=.int k n/\FZ k n:=by obtain⟨c,h1,b,d⟩:=h;have a:c=[v]:=h1;grind
theorem SR.mk_int{k:IntKind}{n:Int}(h:FZ k n):SR P w G (.val (.int k) n) (.int k n):=⟨_,rfl,rfl,h⟩
def SR.bool{b:Bool}{v:Value}(h:SR P w G (.val .bool b) v):v=.bool b:=by obtain⟨c,h1,e⟩:=h;have a:c=[v]:=h1;subst a;have d:[v]=[.bool b]:=e;cases d;rfl
def SR.mk_bool(b:Bool):SR P w G (.val .bool b) (.bool b):=⟨_,rfl,rfl⟩
theorem SR.str{s:DL}{v:Value}(h:SR P w G (.val .str s) v):v=.string ⟨s.toArray⟩/\s.length<=281474976710656:=by obtain⟨c,h1,b,d⟩:=h;have a:c=[v]:=h1;grind
theorem SR.mk_str{s:DL}(h:s.length<=281474976710656):SR P w G (.val .str s) (.string ⟨s.toArray⟩):=⟨_,rfl,rfl,h⟩
def SR.val{x:t.T}{v:Value}(h:SR P w G (.val t x) v):VRel w G.im t x v:=h
def T7(k:IntKind)(n:Int):FZ k (k.wrap n):=by cases k<;>simp[FZ,IntKind.wrap,IntKind.min,IntKind.max,IntKind.signed,IntKind.bits]<;>omega
theorem AF6(a b:DL):(⟨a.toArray⟩:ByteArray)++⟨b.toArray⟩=⟨(a++b).toArray⟩:=by rfl
theorem A1z(a:DL):(⟨a.toArray⟩:ByteArray).toList=a:=by rw[ByteArray.toList_eq]
theorem OL(a:DL):(⟨a.toArray⟩:ByteArray).size=a.length:=by rfl
def AF7{k l:IntKind}{x y z:Int}{t:TypeId}(h:shl? k x y=some z):(binOp .shl t (.int k x) (.int l y)).run P w=.ok (.int k z) w/\FZ k z:=by
 unfold shl? at h;by_cases h0:y<0
 .grind
 .rw[show decide (y<0)=false by simpa using h0]at h;cases h;exact⟨by simp[binOp,Op.shift,h0],T7 _ _⟩
def AF8{k:IntKind}{x:Int}(h:FZ k x)(n:Nat):FZ k (x.fdiv (2 ^ n)):=by
 have a:(0:Int)<2 ^ n:=Int.pow_pos oi;rw[DE _ (Int.le_of_lt a)];have d:k.min<=0:=(YS k).1;have b:0<=k.max:=(YS k).2;have h1:(1:Int)<=2 ^ n:=a;unfold FZ at *;by_cases e:0<=x
 .have j:=Int.ediv_nonneg e (Int.le_of_lt a);have l:x / 2 ^ n<=x:=Int.ediv_le_self _ e;omega
 .have j:x / 2 ^ n<0:=Int.ediv_neg_of_neg_of_pos oa a;have l:x<=x / 2 ^ n:=by rw[Int.le_ediv_iff_mul_le a];have:=Int.mul_le_mul_of_nonpos_left (a:=x) (b:=2 ^ n) (c:=1) oa h1;rw[Int.mul_one]at this;exact this
  omega
def AF9{k l:IntKind}{x y z:Int}{t:TypeId}(a:FZ k x)(h:shr? k x y=some z):(binOp .shr t (.int k x) (.int l y)).run P w=.ok (.int k z) w/\FZ k z:=by
 unfold shr? at h;by_cases h0:y<0
 .grind
 .rw[show decide (y<0)=false by simpa using h0]at h;cases h;exact⟨by simp[binOp,Op.shift,h0],AF8 a _⟩
def AFA{k:IntKind}{x y:Int}(a:rJ op k x y=some r)(b:Gives r u)
 (p:FZ k x)(s:FZ k y)(t:TypeId):u.wr=[]/\∃v,(binOp op t (.int k x) (.int k y)).run P w=.ok v w/\SR P w G u.sv v:=by
 cases op<;>simp only[rJ,AK]at a<;>first|(cases a;done)|skip
 case add=>subst a;rw[b.v_inv];exact⟨rfl,_,by simp[binOp,Op.intArith],SR.mk_int (T7 _ _)⟩
 case sub=>subst a;rw[b.v_inv];exact⟨rfl,_,by simp[binOp,Op.intArith],SR.mk_int (T7 _ _)⟩
 case mul=>subst a;rw[b.v_inv];exact⟨rfl,_,by simp[binOp,Op.intArith],SR.mk_int (T7 _ _)⟩
 case quo=>
  subst a;obtain⟨z,d,rfl⟩:=b.may_inv;unfold div? at d;by_cases h0:y=0
  .grind
  .have:(y==0)=false:=by simpa using h0
   rw[this]at d;simp only[A8,AK]at d;subst d;exact⟨rfl,_,by simp[binOp,Op.intDiv,h0],SR.mk_int (T7 _ _)⟩
 case rem=>
  subst a;obtain⟨z,d,rfl⟩:=b.may_inv;unfold mod? at d;by_cases h0:y=0
  .grind
  .have:(y==0)=false:=by simpa using h0
   rw[this]at d;simp only[A8,AK]at d;subst d;refine⟨rfl,_,by simp[binOp,Op.intDiv,h0],SR.mk_int ?_⟩;have h1:(x.tmod y).natAbs<=x.natAbs:=by rw[Int.natAbs_tmod];exact Nat.mod_le _ _
   have l:0<=x->0<=x.tmod y:=λh=>Int.tmod_nonneg _ h;have m:x<=0->x.tmod y<=0:=λh=>by have:=Int.tmod_nonneg y (show 0<= -x by omega);simp_all
   have j:k.min<=0:=(YS k).1;have e:0<=k.max:=(YS k).2;grind[FZ]
 case eql=>subst a;rw[b.v_inv];refine⟨rfl,.bool (x==y),by simp[binOp,Op.intCmp],?_⟩;exact SR.mk_bool _
 case neq=>subst a;rw[b.v_inv];refine⟨rfl,.bool (x !=y),by simp[binOp,Op.intCmp],?_⟩;exact SR.mk_bool _
 case lss=>subst a;rw[b.v_inv];exact⟨rfl,_,by simp[binOp,Op.intCmp],SR.mk_bool _⟩
 case leq=>subst a;rw[b.v_inv];exact⟨rfl,_,by simp[binOp,Op.intCmp],SR.mk_bool _⟩
 case gtr=>subst a;rw[b.v_inv];exact⟨rfl,.bool (decide (x > y)),by simp[binOp,Op.intCmp],SR.mk_bool _⟩
 case geq=>subst a;rw[b.v_inv];exact⟨rfl,.bool (decide (x ≥ y)),by simp[binOp,Op.intCmp],SR.mk_bool _⟩
def AFB{x y:DL}(h:rK op x y=some r)(a:Gives r u)(t:TypeId):
 u.wr=[]/\∃v,(binOp op t (.string ⟨x.toArray⟩) (.string ⟨y.toArray⟩)).run P w=.ok v w/\SR P w G u.sv v:=by
 cases op<;>simp only[rK,AK]at h<;>first|(cases h;done)|skip
 case add=>
  subst h;obtain⟨z,b,rfl⟩:=a.may_inv;unfold cat? at b;by_cases h0:x.length+y.length<=281474976710656
  .have h1:decide (x.length+y.length<=281474976710656)=true:=by simpa using h0
   rw[h1]at b;simp only[A6,AK]at b;subst b;refine⟨rfl,.string (⟨x.toArray⟩++⟨y.toArray⟩),?_,?_⟩
   .grind[binOp,run_string_add_sum,OL]
   grind[AF6,SR.mk_str]
  grind
 case eql=>subst h;rw[a.v_inv];refine⟨rfl,.bool (x==y),by simp[binOp,Op.stringOp],?_⟩;exact SR.mk_bool _
 case neq=>subst h;rw[a.v_inv];refine⟨rfl,.bool (!(x==y)),by simp[binOp,Op.stringOp],?_⟩;exact SR.mk_bool _
 case lss=>subst h;rw[a.v_inv];refine⟨rfl,.bool (Op.bytesLess x y),by simp[binOp,Op.stringOp],?_⟩;exact SR.mk_bool _
 case leq=>subst h;rw[a.v_inv];refine⟨rfl,.bool (Op.bytesLess x y||x==y),by simp[binOp,Op.stringOp],?_⟩;exact SR.mk_bool _
 case gtr=>subst h;rw[a.v_inv];refine⟨rfl,.bool (!(Op.bytesLess x y||x==y)),by simp[binOp,Op.stringOp],?_⟩;exact SR.mk_bool _
 case geq=>subst h;rw[a.v_inv];refine⟨rfl,.bool (!(Op.bytesLess x y)),by simp[binOp,Op.stringOp],?_⟩;exact SR.mk_bool _
def eL{t:TypeId}{x y:Operand}{v:Value}(h1:∀cs,v≠.agg cs)(h:v≠.nilIface):
 (eqGuard op t x y v v').run P w=.ok () w:=by
 cases v<;>first|exact absurd rfl (h1 _)|exact absurd rfl h|(cases op<;>rfl)
def AFC{x y:Bool}(h:rL op x y=some r)(b:Gives r u){t:TypeId}(j:P.underlying t=some .bool):
 u.wr=[]/\∃v,(binOp op t (.bool x) (.bool y)).run P w=.ok v w/\SR P w G u.sv v:=by
 have e:∀d,(Op.equalIn (d+1) t (.bool x) (.bool y)).run P w=.ok (x==y) w:=by intro d;simp[Op.equalIn,run_underlying j]
 have a:(Op.equal t (.bool x) (.bool y)).run P w=.ok (x==y) w:=e 9999;cases op<;>simp only[rL,AK]at h<;>first|(cases h;done)|skip
 case eql=>subst h;rw[b.v_inv];exact⟨rfl,.bool (x==y),by simp[binOp,a],SR.mk_bool _⟩
 case neq=>subst h;rw[b.v_inv];exact⟨rfl,.bool (!(x==y)),by simp[binOp,a],SR.mk_bool _⟩
def eM{b:Bool}(h:U_ op b=some r)(A:Gives r u){t:TypeId}{v:Value}(h1:∀cs,v≠.agg cs)(B:v≠.nilIface)(x y:Operand)
 (e:(Op.equal t v v').run P w=.ok b w)(l:∀k n,v≠.int k n)(j:∀k n,v≠.float k n)(d:∀k n m,v≠.complex k n m)(p:∀s,v≠.string s):
 u.wr=[]/\∃z,((do eqGuard op t x y v v';binOp op t v v':Sem Value)).run P w=.ok z w/\SR P w G u.sv z:=by
 have a:∀{z:Value},(binOp op t v v').run P w=.ok z w->((do eqGuard op t x y v v';binOp op t v v':Sem Value)).run P w=.ok z w:=by intro z C;rw[Sem.run_bind,eL h1 B];exact C
 cases op<;>simp only[U_,AK]at h<;>first|(cases h;done)|skip
 case eql=>subst h;rw[A.v_inv];refine⟨rfl,.bool b,a ?_,SR.mk_bool _⟩;cases v<;>first|exact absurd rfl (l _ _)|exact absurd rfl (j _ _)|exact absurd rfl (d _ _ _)|exact absurd rfl (p _)|simp[binOp,e]
 case neq=>subst h;rw[A.v_inv];refine⟨rfl,.bool (!b),a ?_,SR.mk_bool _⟩;cases v<;>first|exact absurd rfl (l _ _)|exact absurd rfl (j _ _)|exact absurd rfl (d _ _ _)|exact absurd rfl (p _)|simp[binOp,e]
def AFD{ty:Option Ty}{O:SV}{v:Value}(j:rM op ty s O=some r)(I:Gives r u)(h:SR P w G s v)(J:SR P w G O v'){t:TypeId}(T:∀q,ty=some q->Lay P q t)(x y:Operand):
 u.wr=[]/\∃z,((do eqGuard op t x y v v';binOp op t v v':Sem Value)).run P w=.ok z w/\SR P w G u.sv z:=by
 have p:SR P w G .nilS v'->v'=.slice none 0 0:=λh=>by obtain⟨c,h1,A⟩:=h;exact AC.1 ((show c=[v']from h1).symm.trans A)
 have C:SR P w G .nilS v->v=.slice none 0 0:=λh=>by obtain⟨c,h1,A⟩:=h;exact AC.1 ((show c=[v]from h1).symm.trans A)
 unfold rM at j;split at j
 .rename_i e;have⟨el,L,_⟩:=(T _ rfl).slice;have H:∀{a:Option Addr} {n m:Nat},(Op.equal t (.slice a n m) (.slice none 0 0)).run P w=.ok a.isNone w:=by
   intro a n m;have:∀d,(Op.equalIn (d+1) t (.slice a n m) (.slice none 0 0)).run P w=.ok a.isNone w:=by intro d;cases a<;>simp[Op.equalIn,run_underlying L]
   exact this 9999
  split at j
  .obtain⟨c,K,_,ad,n,m,A⟩:=h;have M:v=.slice (some ad) n m:=AC.1 ((show c=[v]from K).symm.trans A);rw[M,p J];exact eM j I (by intro _ h;cases h) ou x y H (by intro _ _ h;cases h) (by intro _ _ h;cases h) (by intro _ _ _ h;cases h) (by intro _ h;cases h)
  .rename_i Q;obtain⟨c,K,E,ad,n,m,A,R⟩:=h;have M:v=.slice ad n m:=AC.1 ((show c=[v]from K).symm.trans A);rw[M,p J];have D:∀b,nilM? Q=some b->b=ad.isNone:=by
    intro b D;cases Q with
    |none=>cases D;rw[R rfl];rfl
    |some l=>
     cases l with
     |nil=>cases D
     |cons a l=>
      cases D;cases ad with
      |some ad=>rfl
      |none=>obtain⟨V,N,k1,_,U,_⟩:=E;rw[k1]at A;have e:=AC.1 A;injection e with e _ _;cases (U e).1
   split at j
   .cases j;obtain⟨b,B,rfl⟩:=I.may_inv;have B:=D b B;subst B;exact eM (op:=.eql) (b:=ad.isNone) rfl (Gives.pure _) (by intro _ h;cases h) ou x y H (by intro _ _ h;cases h) (by intro _ _ h;cases h) (by intro _ _ _ h;cases h) (by intro _ h;cases h)
   .cases j;obtain⟨b,B,rfl⟩:=I.may_inv;have B:=D b B;subst B;exact eM (op:=.neq) (b:=ad.isNone) rfl (Gives.pure _) (by intro _ h;cases h) ou x y H (by intro _ _ h;cases h) (by intro _ _ h;cases h) (by intro _ _ _ h;cases h) (by intro _ h;cases h)
   .cases j
  .rw[C h,p J];exact eM j I (by intro _ h;cases h) ou x y H (by intro _ _ h;cases h) (by intro _ _ h;cases h) (by intro _ _ _ h;cases h) (by intro _ h;cases h)
  .cases j
 .cases j
def AFE{I:SV}{v:Value}(d:dL op s I=some r)(j:Gives r u)
 (h:SR P w G s v)(p:SR P w G I v')(t:TypeId)(x y:Operand)(A:∀b,s=.val .bool b->P.underlying t=some .bool):
 u.wr=[]/\∃z,((do eqGuard op t x y v v';binOp op t v v':Sem Value)).run P w=.ok z w/\SR P w G u.sv z:=by
 unfold dL at d;split at d
 .rename_i k a l b;obtain⟨rfl,H⟩:=h.int;obtain⟨rfl,A⟩:=p.int;have e:∀{z:Value},(binOp op t (.int k a) (.int l b)).run P w=.ok z w->((do eqGuard op t x y (.int k a) (.int l b);binOp op t (.int k a) (.int l b):Sem Value)).run P w=.ok z w:=by intro z m;rw[Sem.run_bind,eL oh ou];exact m
  split at d
  .cases d;obtain⟨z,m,rfl⟩:=j.may_inv;have⟨B,C⟩:=AF7 (P:=P) (w:=w) (l:=l) (t:=t) m;exact⟨rfl,_,e B,SR.mk_int C⟩
  .cases d;obtain⟨z,m,rfl⟩:=j.may_inv;have⟨B,C⟩:=AF9 (P:=P) (w:=w) (l:=l) (t:=t) H m;exact⟨rfl,_,e B,SR.mk_int C⟩
  .by_cases hk:OH k l=true
   .rw[hk]at d;have:=UR hk;subst this;have⟨h1,z,D,E⟩:=AFA (P:=P) (w:=w) (G:=G) d j H A t;grind
   grind
 .rename_i a b;obtain⟨rfl,_⟩:=h.str;obtain⟨rfl,_⟩:=p.str;have⟨h1,z,D,E⟩:=AFB (P:=P) (w:=w) (G:=G) d j t;simp_all[Sem.run_bind,eL]
 .rename_i a b;have J:=h.bool;have K:=p.bool;subst J K;have⟨h1,z,D,E⟩:=AFC (P:=P) (w:=w) (G:=G) d j (A _ rfl);simp_all[Sem.run_bind,eL]
 .cases d
def AFF{op:UnOp}{v:Value}(a:rN op s=some r)(d:Gives r u)(h:SR P w G s v):
 u.wr=[]/\∃z,(Op.unary op v).run P w=.ok z w/\SR P w G u.sv z:=by
 unfold rN at a;split at a
 .rename_i b;have:=h.bool;subst this;cases op<;>simp only[AK]at a<;>first|(cases a;done)|skip
  subst a;rw[d.v_inv];exact⟨rfl,.bool (!b),by simp[Op.unary],SR.mk_bool _⟩
 .rename_i k n;obtain⟨rfl,_⟩:=h.int;cases op<;>simp only[AK]at a<;>first|(cases a;done)|skip
  subst a;rw[d.v_inv];exact⟨rfl,_,by rfl,SR.mk_int (T7 _ _)⟩
 .cases a
def SR.cast{u:Ty}{x:t.T}{y:u.T}{v:Value}(h:Ty.cast? t u x=some y)(a:SR P w G (.val t x) v):SR P w G (.val u y) v:=
 VRel.cast h a
def AFG{s1 d:SV}{v e j:Value}(a:rP s s1 d=some r)(m:Gives r u)
 (h:SR P w G s v)(h1:v=.bool true->SR P w G s1 e)(l:v=.bool false->SR P w G d j):
 u.wr=[]/\∃b,v=.bool b/\SR P w G u.sv (if b then e else j):=by
 unfold rP at a;split at a
 .rename_i c t x q y;split at a
  .rename_i z p;simp only[AK]at a;subst a;rw[m.v_inv];have:=h.bool;subst this;refine⟨rfl,c,rfl,?_⟩;cases c with
   |true=>exact h1 rfl
   |false=>exact SR.cast p (l rfl)
  .cases a
 .cases a
def SV.list_ok:∀{l:SV} {vs:List Value},CR P w G l vs->∀(i:Nat) (s:SV),l.list[i]?=some s->∃v,vs[i]?=some v/\SR P w G s v:=by
 intro l;induction l with
 |scons a b j m=>
  intro vs h i s hi;obtain⟨v,r,rfl,⟨c,d,e⟩,p⟩:=h;cases i with
  |zero=>
   have:a=s:=by simpa[SV.list]using hi
   subst this;exact⟨v,rfl,c,d,e⟩
  |succ i=>grind[SV.list]
 |_=>intro vs h i s hi;simp[SV.list]at hi
def AFH{v:Value}{i:Nat}(a:rZ s i=some r)(x:Gives r u)(h:SR P w G s v):
 u.wr=[]/\∃z,(Instr.extract v i).run P w=.ok z w/\SR P w G u.sv z:=by
 unfold rZ at a;split at a
 .rename_i l i;split at a
  .rename_i q m;simp only[AK]at a;subst a;rw[x.v_inv];obtain⟨c,h1,y,d,j⟩:=h;have b:c=[v]:=h1;rw[b]at d;injection d with h4 _;subst h4;have⟨z,e,p⟩:=SV.list_ok j _ _ m;rw[B4]at e;exact⟨rfl,z,by simp[Instr.extract,e],p⟩
  .cases a
 .cases a
def sY{xs:List e.T}{v:Value}(h:VRel w I (.slice e) xs v):
 ∃a b,v=.slice a xs.length b/\IS xs.length b/\(a=none->xs=[]/\b=0)/\
  ∀ad,a=some ad->(b≠0->ad.spot=none)/\∀i x,xs[i]?=some x->∃c,Row w I ad.block (ad.off+i*e.sz) e.sz c/\Rel w I e x c:=by
 obtain⟨c,h1,a,b,j,l,m,p⟩:=h;have d:c=[v]:=h1;grind
def A20{xs:List e.T}{a:Option Addr}{cap:Nat}(h1:IS xs.length cap)(h:a=none->xs=[]/\cap=0)
 (b:∀ad,a=some ad->(cap≠0->ad.spot=none)/\∀i x,xs[i]?=some x->∃c,Row w I ad.block (ad.off+i*e.sz) e.sz c/\Rel w I e x c):
 VRel w I (.slice e) xs (.slice a xs.length cap):=⟨_,rfl,a,cap,rfl,h1,h,b⟩
def at?_some{l:List α}{x:α}(h:at? l i=some x):0<=i/\i.toNat<l.length/\l[i.toNat]?=some x:=by grind[at?,decide,List.getElem?_eq_some_iff]
def in?_some{x:Unit}(h:in? n i=some x):0<=i/\i.toNat<n:=by grind[in?,decide,Bool.and_eq_false_iff]
def cut?_some{l r:List α}{lo hi:Int}(h:cut? l lo hi=some r):0<=lo/\lo<=hi/\hi<=l.length/\r=(l.take hi.toNat).drop lo.toNat:=by unfold cut? at h;grind
theorem sZ(b:UInt8):FZ .u8 (b.toNat:Int):=by have:=b.toNat_lt;grind[FZ,IntKind.min,IntKind.max,IntKind.signed,IntKind.bits]
theorem T8(l:Lay P e id){x:e.T}{cs:Array Value}{off:Nat}(h:Rel w I e x ((cs.toList.drop off).take e.sz))(B:off+e.sz<=cs.size):
 ∃v,(part id cs off).run P w=.ok v w/\VRel w I e x v:=by
 obtain⟨d,A,j⟩:=l.isAgg;have⟨i,z,hi,p,_,_,_⟩:=K4 l.inf;unfold part isAgg;simp only[Sem.run_bind,run_underlying A,Result.andThen_ok];by_cases b:e.isAgg=true
 .rw[b]at j;refine⟨.agg (cs.extract off (off+e.sz)),?_,((cs.toList.drop off).take e.sz),?_,h⟩
  .have y:P.cellsOf id=e.sz:=by simp[Program.cellsOf,hi,p]
   cases d<;>simp at j<;>simp[run_sizeOf w hi,y]
  .have:(cs.extract off (off+e.sz))=((cs.toList.drop off).take e.sz).toArray:=by apply C6;simp[Array.toList_extract,List.extract_eq_take_drop]
   rw[this];cases e<;>simp[Ty.isAgg]at b<;>rfl
 .have a:e.isAgg=false:=by simpa using b
  rw[a]at j;have s:=h.length;have h1:e.sz=1:=by cases e<;>first|rfl|(exfalso;simp[Ty.isAgg]at a;done)|(exfalso;simp[Lay,layB]at l;done)
  rw[h1]at h B;have m:off<cs.size:=oa;have C:cs[off]?=some cs[off]:=by simp[m]
  refine⟨cs[off],?_,[cs[off]],?_,?_⟩
  .cases d<;>simp at j<;>simp[C]
  .cases e<;>first|rfl|(exfalso;simp[Ty.isAgg]at a;done)|(exfalso;simp[Lay,layB]at l;done)
  grind[List.drop_eq_getElem_cons]
theorem AFI(hl:P.underlying id=some .string){k:IntKind}{s:DL}(hu:Gives (A1c s i) u):
 u.wr=[]/\∃z,(Instr.index id (.string ⟨s.toArray⟩) (.int k i)).run P w=.ok z w/\SR P w G u.sv z:=by
 obtain⟨b,hb,rfl⟩:=hu.may_inv;obtain⟨h1,h2,h3⟩:=at?_some hb;have h4:i.toNat<(⟨s.toArray⟩:ByteArray).size:=by rw[OL];exact h2
 refine⟨rfl,.int .u8 (b.toNat:Int),?_,SR.mk_int (sZ b)⟩;rw[run_index_string w id _ k i hl,dif_pos ⟨h1,oa⟩];have:(⟨s.toArray⟩:ByteArray)[i.toNat]'h4=b:=by have:=(A3.1 h3).2;rw[<-this];rfl
 rw[this]
theorem AFJ(A:Lay P (.arr n e) id){k:IntKind}{xs:List e.T}{v:Value}(C:Gives (A1d e xs i) u)(h:SR P w G (.val (.arr n e) xs) v):
 u.wr=[]/\∃z,(Instr.index id v (.int k i)).run P w=.ok z w/\SR P w G u.sv z:=by
 obtain⟨y,H,rfl⟩:=C.may_inv;obtain⟨h1,p,s⟩:=at?_some H;obtain⟨cs,x,d⟩:=h.val;have j:v=.agg cs.toArray:=x;subst j;obtain⟨k1,J,K⟩:=d;obtain⟨el,D,a,_,_⟩:=A.arr;obtain⟨I,z,m,B,_,_,_⟩:=K4 a.inf;have l:i.toNat<n:=by rw[<-k1];exact p
 have b:(i.toNat+1)*e.sz<=n*e.sz:=AT _ l;rw[C8]at b;obtain⟨z,L,E⟩:=T8 (P:=P) a (cs:=cs.toArray) (off:=i.toNat*e.sz) (by simpa using K _ _ s) (by simp[J];omega);refine⟨rfl,z,?_,E⟩;unfold Instr.index;simp_all[Program.cellsOf,Sem.run_bind,asIntOf,Sem.run_pure,Result.andThen_ok,run_underlying,if_pos,run_sizeOf]
theorem AFK(d:Lay P t id){k:IntKind}{v:Value}(a:rU t i s=some r)(e:Gives r u)(h:SR P w G s v):
 u.wr=[]/\∃z,(Instr.index id v (.int k i)).run P w=.ok z w/\SR P w G u.sv z:=by
 unfold rU at a;split at a
 .split at a
  .cases a;obtain⟨rfl,_⟩:=h.str;exact AFI d.str e
  .cases a
 .split at a
  .split at a
   .rename_i x b;cases a;exact AFJ d e (SR.cast b h)
   .cases a
  .cases a
 .cases a
theorem PT{v:Value}(h:SR P w G (.obj k g) v):G.val k g=some v:=by obtain⟨c,h1,v',b,_,d⟩:=h;have a:c=[v]:=h1;grind
def s_{v:Value}(h:SR P w G (.obj k g) v):v.oneCell'=true:=by obtain⟨c,h1,v',_,b,d⟩:=h;have a:c=[v]:=h1;grind
def AFL{v:Value}(h:G.val k g=some v)(h1:v.oneCell'=true):SR P w G (.obj k g) v:=⟨_,rfl,v,h,h1,rfl⟩
def SlOK.shape{el:Nat}{xs:List t.T}{wr:Bool}{v:Value}(h:SlOK fr w I el t xs wr v):∃a d,v=.slice a xs.length d/\xs.length<=281474976710656:=by
 rcases h with⟨rfl,rfl⟩|⟨b,d,cs,rfl,h,_⟩
 .simp
 .exact⟨_,_,rfl,h.2⟩
theorem AFM(T:Lay P t id)(Z:∀k o,σ k=some o->ObjOK P fr w G k o){v:Value}
 (d:rW σ t s=some r)(hu:Gives r u)(h:SR P w G s v)(L:Array TypeId)(A:L[0]?=some id)(ty:TypeId):
 u.wr=[]/\∃z,(Builtin.len_ L ty #[v]).run P w=.ok z w/\SR P w G u.sv z:=by
 have inn:∀{n:Nat},n<=281474976710656->FZ .i64 (n:Int):=by intro n h;constructor<;>simp[IntKind.min,IntKind.max,IntKind.signed,IntKind.bits]<;>omega
 have M:∀{n:Nat},r=Y8 n->n<=281474976710656->(Builtin.len_ L ty #[v]).run P w=.ok (.int .i64 (n:Int)) w->u.wr=[]/\∃z,(Builtin.len_ L ty #[v]).run P w=.ok z w/\SR P w G u.sv z:=by intro n h1 N B;subst h1;rw[hu.v_inv];exact⟨rfl,_,B,SR.mk_int (inn N)⟩
 have nk:∀{n:Nat},r=A1e n->(Builtin.len_ L ty #[v]).run P w=.ok (.int .i64 (n:Int)) w->u.wr=[]/\∃z,(Builtin.len_ L ty #[v]).run P w=.ok z w/\SR P w G u.sv z:=by
  intro n h1 B;subst h1;obtain⟨y,R,rfl⟩:=hu.may_inv;unfold len? at R;cases I:Nat.ble n 281474976710656 with
  |false=>rw[I]at R;cases R
  |true=>rw[I]at R;cases R;exact⟨rfl,_,B,SR.mk_int (inn (CJ I))⟩
 unfold rW at d;split at d
 .split at d
  .rename_i s;cases d;obtain⟨rfl,h8⟩:=h.str;refine M rfl h8 ?_;simp[Builtin.len_,A,run_underlying T.str,goInt];exact congrArg Nat.cast (OL _)
  .cases d
 .rename_i n e;cases I:Nat.ble n 281474976710656 with
  |false=>rw[I]at d;cases d
  |true=>
  rw[I]at d;cases d;obtain⟨el,l,_,_,_⟩:=T.arr;refine M rfl (CJ I) ?_;simp[Builtin.len_,A,run_underlying l,goInt]
 .rename_i e;obtain⟨el,l,x0,_⟩:=T.slice;have H:∀{a:Option Addr} {n m:Nat},v=.slice a n m->(Builtin.len_ L ty #[v]).run P w=.ok (.int .i64 (n:Int)) w:=by intro a n m K;subst K;simp[Builtin.len_,A,run_underlying l,goInt]
  split at d
  .rename_i k g;split at d
   .rename_i e' xs g' wr hk;cases E:Nat.beq g g' with
    |false=>rw[E]at d;cases d
    |true=>rw[E]at d;cases d;have:=A4 E;subst this;have⟨_,v',h1,B⟩:=Z _ _ hk;rw[PT h]at h1;cases h1;obtain⟨a,m,K,D⟩:=B.shape;exact M rfl D (H K)
   .rename_i x1 r' t' xs gk hh wr hk;cases E:Nat.beq g 0 with
    |false=>rw[E]at d;cases d
    |true=>rw[E]at d;cases d;have:=A4 E;subst this;have⟨a,m,h1,D⟩:=DpOK.shape (xs:=xs) (Z _ _ hk);rw[PT h]at h1;exact M rfl D (H (A2 h1))
   .cases d
  .cases d;obtain⟨c,hc,a,m,h1,B⟩:=h;have K:v=_:=AC.1 ((show c=[v]from hc).symm.trans h1);exact M rfl B (H K)
  .split at d
   .rename_i xs h9;cases d;have⟨a,m,K,D,_⟩:=sY (KK h9 h);exact M rfl D.2 (H K)
   .cases d
 .rename_i ka kb;obtain⟨ia,ib,l,_,_⟩:=T.map;split at d
  .rename_i k g;split at d
   .rename_i x2 x3 es hk;cases E:Nat.beq g 0 with
    |false=>rw[E]at d;cases d
    |true=>
     rw[E]at d;cases d;have:=A4 E;subst this;have⟨v',h1,p,U,b,C,j,B,N,⟨O,_⟩,_⟩:=Z _ _ hk;have O:=O.trans U.1.length_eq;rw[PT h]at h1;cases h1;subst B;refine nk rfl ?_;have J:(getObj b).run P w=.ok (.map C j) w:=by simp[getObj,Sem.run,N]
     simp[Builtin.len_,A,run_underlying l,J,goInt,O]
   .cases d
  .rename_i q x;split at d
   .rename_i es Y;cases d;have⟨c,h1,Q⟩:=(SR.cast Y h).val;obtain⟨p,U,rr,B,N,O⟩:=Q;have V:c=[v]:=h1;rw[V]at B;injection B with h5 _;subst h5;refine nk rfl ?_;cases rr with
    |none=>
     have W:=N rfl;have hn:List.length (show List (ka.T×kb.T)from es)=0:=by rw[<-U.1.length_eq,W];rfl
     simp[Builtin.len_,A,run_underlying l,goInt];exact hn.symm▸rfl
    |some b=>
     have⟨_,C,j,h6,⟨X,_⟩,_⟩:=O b rfl;have X:=X.trans U.1.length_eq;have J:(getObj b).run P w=.ok (.map C j) w:=by simp[getObj,Sem.run,h6]
     simp[Builtin.len_,A,run_underlying l,J,goInt];exact congrArg Nat.cast X
   .cases d
  .cases d
 .cases d
def LJ(P:Program)(w:World)(G:Gh):Option SV->Option Value->Prop
 |some s,some x=>SR P w G s x
 |none,none=>True
 |_,_=>False
theorem OM{b:Option SV}{v:Option Value}{d n:Int}(a:RL b d=some n)(h:LJ P w G b v):
 (v=none/\n=d)\/∃k,v=some (.int k n):=by
 unfold RL at a;split at a
 .rename_i k m;cases v with
  |none=>exact absurd h id
  |some x=>obtain⟨rfl,_⟩:=SR.int h;grind
 .cases v with
  |none=>grind
  |some x=>exact absurd h id
 .cases a
def YU{isS:Bool}{len cap:Nat}{lo hi:Option Value}{l h:Int}(h1:(lo=none/\l=0)\/∃k,lo=some (.int k l))(d:(hi=none/\h=len)\/∃k,hi=some (.int k h))
 (b:0<=l)(a:l<=h)(e:h<=cap):(Instr.sliceBounds isS len cap lo hi none).run P w=.ok (l.toNat,h.toNat,cap) w:=by
 have j:h.toNat<=cap:=oa;rcases h1 with⟨rfl,rfl⟩|⟨k,rfl⟩<;>rcases d with⟨rfl,rfl⟩|⟨m,rfl⟩
 .rfl
 .simp_all[Instr.sliceBounds,Instr.sliceBound,asIntOf]
 .simp[Instr.sliceBounds,Instr.sliceBound,asIntOf,b,a]
 .simp[Instr.sliceBounds,Instr.sliceBound,asIntOf,b,show 0<=h by omega,e];omega
theorem AFN(A:P.underlying id=some .string){s:DL}(E:s.length<=281474976710656)
 (h:rX s lo hi=some r)(B:Gives r u)(e:LJ P w G lo vlo)(d:LJ P w G hi vhi):
 u.wr=[]/\∃z,(Instr.sliceAt id (.string ⟨s.toArray⟩) vlo vhi none).run P w=.ok z w/\SR P w G u.sv z:=by
 unfold rX at h;split at h
 .rename_i l m b a;cases h;obtain⟨y,C,rfl⟩:=B.may_inv;obtain⟨h1,p,D,x⟩:=cut?_some C;have j:=YU (P:=P) (w:=w) (isS:=false) (len:=s.length) (cap:=s.length) (OM b e) (OM a d) h1 p oa;refine⟨rfl,.string ((⟨s.toArray⟩:ByteArray).extract l.toNat m.toNat),?_,?_⟩
  .simp only[Instr.sliceAt,Sem.run_bind,run_underlying A,Result.andThen_ok,Instr.slice,Option.isSome_none,D6,CL];rw[OL,j];rfl
  .have:(⟨s.toArray⟩:ByteArray).extract l.toNat m.toNat=⟨y.toArray⟩:=by apply ByteArray.ext;rw[ByteArray.data_extract];apply C6;rw[x];simp only[List.extract_toArray,List.extract_eq_take_drop];rw[DA]
   grind[SR.mk_str,List.length_drop,List.length_take]
 .cases h
theorem AFO(Q:Lay P (.slice e) id){xs:List e.T}{v:Value}
 (A:V3 e xs lo hi=some r)(T:Gives r u)(h:VRel w G.im (.slice e) xs v)(H:LJ P w G lo vlo)(D:LJ P w G hi vhi):
 u.wr=[]/\∃z,(Instr.sliceAt id v vlo vhi none).run P w=.ok z w/\SR P w G u.sv z:=by
 obtain⟨el,U,E,_⟩:=Q.slice;have⟨W,z0,p,s,_,_,_⟩:=K4 E.inf;have O:P.cellsOf el=e.sz:=by simp[Program.cellsOf,p,s]
 unfold V3 at A;split at A
 .rename_i l K C B;cases A;obtain⟨y,V,rfl⟩:=T.may_inv;obtain⟨h1,M,Z,N⟩:=cut?_some V;obtain⟨a,b,rfl,⟨k1,X⟩,k2,Y⟩:=sY h;have R:=YU (P:=P) (w:=w) (isS:=true) (len:=xs.length) (cap:=b) (OM C H) (OM B D) h1 M oa;have j:y.length=K.toNat-l.toNat:=by rw[N];simp only[C9,BQ];omega
  refine⟨rfl,.slice (if b=l.toNat then a else a.map (·.add (l.toNat*e.sz))) (K.toNat-l.toNat) (b-l.toNat),?_,?_⟩
  .simp_all[Instr.sliceAt,Sem.run_bind,run_underlying,Result.andThen_ok,Instr.slice,run_sizeOf]
  .rw[<-j];refine A20 ⟨oa,oa⟩ ?_ ?_
   .intro I;have:a=none:=by
     split at I
     .exact I
     .cases a<;>first|rfl|(simp at I)
    grind
   .intro ad d;by_cases m:b=l.toNat
    .grind
    .rw[if_neg m]at d;cases a with
     |none=>simp at d
     |some x=>
      simp only[BH,AK]at d;have⟨J,q2⟩:=Y x rfl;have q1:=J oa;have L:ad=⟨x.block,x.off+l.toNat*e.sz,none⟩:=by
       rw[<-d];unfold Addr.add;split
       .rename_i hz;cases x;grind
       .rfl
      grind
 .cases A
theorem AFP(l:Lay P t id)(p:∀k o,σ k=some o->ObjOK P fr w G k o){v:Value}
 (a:rY σ t s lo hi=some r)(m:Gives r u)(h:SR P w G s v)(d:LJ P w G lo vlo)(b:LJ P w G hi vhi):
 u.wr=[]/\∃z,(Instr.sliceAt id v vlo vhi none).run P w=.ok z w/\SR P w G u.sv z:=by
 unfold rY at a;split at a
 .split at a
  .obtain⟨rfl,e⟩:=h.str;exact AFN l.str e a m d b
  .cases a
 .split at a
  .rename_i x j;exact AFO l a m (K0 p j h) d b
  .cases a
 .cases a
theorem Lay.sz_pos(h:Lay P t id):0<t.sz:=by
 cases t with
 |agg p=>obtain⟨_,_,_,h⟩:=h.agg;exact h
 |arr n e=>obtain⟨_,_,_,h1,d⟩:=h.arr;exact Nat.mul_pos oa h1
 |prod a b=>simp[Lay,layB]at h
 |unit=>simp[Lay,layB]at h
 |_=>exact Nat.one_pos
theorem Lay.cells(h:Lay P t id):∃i,P.info? id=some i/\P.cellsOf id=t.sz:=by have⟨i,_,hi,a,_⟩:=K4 h.inf;grind[Program.cellsOf]
theorem eN(e:Lay P (.agg p) id){u:Ty}(l:p.sub (GK p.fields f)=some u)(d:f<p.fields):
 ∃fs F o,P.underlying id=some (.struct fs)/\fs[f]?=some F/\p.off (GK p.fields f)=some o/\F.offset=o/\Lay P u F.type:=by
 obtain⟨fs,j,b,_⟩:=e.agg;have⟨h1,a⟩:=YT b;have h:f<fs.toList.length:=by rw[h1];exact d
 have⟨x,o,k1,m,s,w⟩:=a f _ (A1 h);simp_all
theorem MC:(⟨b,o,none⟩:Addr).add n=⟨b,o+n,none⟩:=by grind[Addr.add]
def AFQ{u:Ty}{F:Field}(h:Lay P u F.type)(a:Addr):(fieldPlace a F).run P w=.ok (a.add F.offset) w:=by obtain⟨i,hi,b⟩:=h.cells;have:=h.sz_pos;have h0:P.cellsOf F.type≠0:=oa;simp[fieldPlace,run_sizeOf w hi,h0]
def AFR:∀{p:List Bool} {t u:Ty} {o:Nat} {q:List Bool},t.off p=some o->t.sub p=some u->t.off (p++q)=(u.off q).map (o + ·)/\t.sub (p++q)=u.sub q:=by
 intro p;induction p with
 |nil=>
  intro t u o q h e;have l:t=u:=by cases t<;>exact A2 e
  have j:0=o:=by cases t<;>exact A2 h
  subst l j;simp
 |cons i r s=>
  intro t;induction t with
  |prod a b=>
   intro u o q h e;cases i with
   |false=>exact s (t:=a) h e
   |true=>
    simp only[Ty.off,A6]at h;cases m:b.off r with
    |none=>grind
    |some y=>rw[m]at h;cases h;have⟨k1,x⟩:=s (t:=b) (q:=q) m e;refine⟨?_,x⟩;simp only[List.cons_append,Ty.off,A6,k1];cases u.off q<;>simp[CN]
  |agg d w=>assumption
  |_=>intro u o q h e;cases h
theorem AFS{p:List Bool}{u:Ty}(h1:G.box k=some (b,t))(h:t.off p=some o)(a:NQ t p u):
 SR P w G (.ptr k p u) (.pointer (some ⟨b,o,none⟩)):=⟨_,rfl,b,t,o,h1,h,a,rfl⟩
theorem NR{p:List Bool}{u:Ty}{v:Value}(h:SR P w G (.ptr k p u) v):
 ∃b t o,G.box k=some (b,t)/\t.off p=some o/\NQ t p u/\v=.pointer (some ⟨b,o,none⟩):=by
 obtain⟨c,h1,b,t,o,d,e,j,l⟩:=h;have a:c=[v]:=h1;grind
def eO{i:Nat}{p:List Bool}{u:Ty}{v:Value}(h:SR P w G (.ptri k p i q u) v):
 ∃b t o n e a,G.box k=some (b,t)/\t.off p=some o/\NQ t p (.arr n e)/\i<n/\e.off q=some a/\NQ e q u/\v=.pointer (some ⟨b,o+i*e.sz+a,none⟩):=by
 obtain⟨c,h1,b,t,o,n,e,a,j,l,m,s,x,y,z⟩:=h;have d:c=[v]:=h1;grind
def RQ{i:Nat}{u:Ty}{v:Value}(h:SR P w G (.elem k g i q u) v):
 ∃b o len a e d,G.val k g=some (.slice (some ⟨b,o,none⟩) len a)/\G.ety k=some e/\i<len/\e.off q=some d/\NQ e q u/\v=.pointer (some ⟨b,o+i*e.sz+d,none⟩):=by
 obtain⟨c,h1,b,o,len,a,e,d,l,m,p,s,x,y⟩:=h;have j:c=[v]:=h1;grind
def T9{x:t.T}{v:Value}(h:SR P w G (.ref t x) v):∃ad c,v=.pointer (some ad)/\ad.spot=none/\Row w G.im ad.block ad.off t.sz c/\Rel w G.im t x c:=by obtain⟨d,h1,ad,c,b,e,j,l⟩:=h;have a:d=[v]:=h1;grind
theorem Ty.bare_same{u:Ty}(h:u.bare.same p=true):u.bare=p:=Ty.same_eq h
def AFT{u:Ty}(h:u.bare=p)(q:List Bool):u.off q=p.off q/\(q≠[]->u.sub q=p.sub q):=by
 subst h;cases q with
 |nil=>exact⟨by cases u<;>first|rfl|(rename_i t;cases t<;>rfl),λh=>absurd rfl h⟩
 |cons i r=>grind[Ty.off_bare,Ty.sub_bare]
def AFU{u v:Ty}(h:u.bare=p)(a:p.sub q=some v):∃v',u.sub q=some v'/\(v'=v\/(q=[]/\v'.bare=v)):=by
 subst h;cases q with
 |nil=>
  have:u.bare=v:=by cases b:u.bare<;>(rw[b]at a;exact A2 a)
  exact⟨u,by cases u<;>rfl,.inr ⟨rfl,this⟩⟩
 |cons i r=>exact⟨v,by rw[Ty.sub_bare];exact a,.inl rfl⟩
def Row.sub{m:Nat}{c:List Value}(h:Row w I b o n c)(hk:k+m<=n):Row w I b (o+k) m ((c.drop k).take m):=
 ⟨by rw [BQ,C9,h.len]; omega,λj d=>by have⟨h1,a⟩:=h.at_ (k+j) oa;grind⟩
def AFV(h:GK n f=[]):n<=1:=by
 cases n with
 |zero=>omega
 |succ n=>cases n with
  |zero=>omega
  |succ n=>cases f<;>simp[GK]at h
theorem tA{u v:Ty}(m:Y6 p=true)(l:t.off q=some o)(s:NQ t q u)(e:u.bare=p)(w:p.sub (GK p.fields f)=some v)(z:f<p.fields)
 {b:Nat}(hof:p.off (GK p.fields f)=some b):
 t.off (q++GK p.fields f)=some (o+b)/\NQ t (q++GK p.fields f) v:=by
 obtain⟨y,h1,d⟩:=s;have h:y.bare=p:=d.trans e;have⟨k1,A⟩:=AFR (q:=GK p.fields f) l h1;have⟨B,_⟩:=AFT h (GK p.fields f);have⟨v',C,x⟩:=AFU h w;refine⟨oc,v',oc,?_⟩;rcases x with rfl|⟨a,j⟩
 .rfl
 .have h1:p.fields=1:=by have:=AFV a;omega
  grind[Option.some.inj,Y6,Nat.beq,Ty.same_eq]
theorem AFW{u:Ty}{x a:u.T}:(NK u t x).isSome=(NK u t a).isSome:=by unfold NK;grind[Ty.cast?]
theorem at_some:∀{l:List Bool} {t:Ty} {x d:t.T},(Ty.at t l x).isSome=(Ty.at t l d).isSome:=by
 intro l;induction l with
 |nil=>intro t x d;cases t<;>rfl
 |cons b l e=>
  intro t x d;cases t with
  |prod a c=>cases b<;>exact e
  |agg q=>
   cases q with
   |prod a c=>cases b<;>exact e
   |_=>rfl
  |_=>rfl
def AFX{z z':e.T}:(NN p f (.ref e z)).isSome=(NN p f (.ref e z')).isSome:=by
 unfold NN;cases Y6 p with
 |false=>rfl
 |true=>simp only[A6];grind[AFW,NK,at_some,GK,Ty.at]
theorem A21(N:Lay P (.agg p) id)(C:f<p.fields){W:SV}{v:Value}(a:NN p f s=some W)(h:SR P w G s v):
 ∃z,(Instr.fieldAt id v f).run P w=.ok z w/\SR P w G W z:=by
 unfold NN at a;cases m:Y6 p with
 |false=>grind
 |true=>
 rw[m]at a;simp only[A6]at a
 have B:∀{b o:Nat} {F:Field} {fs:Array Field} {u:Ty},P.underlying id=some (.struct fs)->fs[f]?=some F->Lay P u F.type->
  (Instr.fieldAt id (.pointer (some ⟨b,o,none⟩)) f).run P w=.ok (.pointer (some ⟨b,o+F.offset,none⟩)) w:=by
  intro b o F fs u h1 l j;simp only[Instr.fieldAt,Sem.run_bind,run_underlying h1,Result.andThen_ok,l,Instr.sureAddr,Sem.run_pure,AFQ j,MC]
 split at a
 .rename_i k q u;split at a
  .rename_i M;cases d:p.sub (GK p.fields f)with
   |none=>grind
   |some V=>rw[d]at a;cases a;have⟨fs,F,L,D,E,A,O,H⟩:=eN N d C;obtain⟨b,t,o,h1,l,j,rfl⟩:=NR h;grind[tA,Ty.bare_same,AFS]
  .cases a
 .rename_i k q i r u;split at a
  .rename_i M;cases d:p.sub (GK p.fields f)with
   |none=>grind
   |some V=>rw[d]at a;cases a;have⟨fs,F,L,D,E,A,O,H⟩:=eN N d C;obtain⟨b,t,o,n,e,U,h1,l,j,R,T,X,rfl⟩:=eO h;have⟨k1,K⟩:=tA m T X (Ty.bare_same M) d C A;refine⟨_,B D E H,_,rfl,b,t,o,n,e,U+L,h1,l,j,R,k1,K,?_⟩;grind
  .cases a
 .rename_i k g i r u;split at a
  .rename_i M;cases d:p.sub (GK p.fields f)with
   |none=>grind
   |some V=>rw[d]at a;cases a;have⟨fs,F,L,D,E,A,O,H⟩:=eN N d C;obtain⟨b,o1,len,Q,e,U,h1,l,j,R,T,rfl⟩:=RQ h;have⟨k1,K⟩:=tA m R T (Ty.bare_same M) d C A;refine⟨_,B D E H,_,rfl,b,o1,len,Q,e,U+L,h1,l,j,k1,K,?_⟩;grind
  .cases a
 .rename_i u x;split at a
  .rename_i y Y;split at a
   .rename_i V z Z;cases a;obtain⟨ad,c,rfl,h1,l,j⟩:=T9 h;have I:Rel w G.im p y c:=VF (p:=p) Y j;have⟨o,k1,K,k3,k4⟩:=eJ I Z;have⟨fs,F,L,D,E,A,O,H⟩:=eN N K C;rw[k1]at A;cases A;obtain⟨bb,oo,sp⟩:=ad;simp only at h1;subst h1;refine⟨_,B D E H,_,rfl,_,_,rfl,rfl,?_,k4⟩;rw[O];have J:u.sz=p.sz:=by rw[<-j.length,I.length]
    exact l.sub (by rw[J];omega)
   .cases a
  .cases a
 .cases a
def tB(m:∀k o,σ k=some o->ObjOK P fr w G k o){v:Value}(h:SR P w G s v):SR P w G (QX σ s) v:=by
 unfold QX;split
 .rename_i k p u;split
  .rename_i t c hk;split
   .rename_i x D;split
    .rename_i y E;obtain⟨b,W,o,h1,A,⟨X,N,B⟩,rfl⟩:=NR h;have⟨M,cs,el,k1,H,Q,I,J,K,_⟩:=m _ _ hk;rw[h1]at k1;cases k1;have⟨V,l,z,R,T,U,L⟩:=YR I J D;rw[A]at z;cases z;have d:=YQ m E L;have a:=d.length;have e:((cs.toList.drop o).take l.sz).length=l.sz:=by rw[BQ,C9,BG];omega
     have C:u.sz=l.sz:=by rw[<-a,e]
     refine⟨_,rfl,⟨b,o,none⟩,_,rfl,rfl,⟨a,λj O=>⟨K.2 rfl _ (by show o+j<_;omega),?_⟩⟩,d⟩;simp only[World.cell?,H,Option.isSome_none,D6,CL];rw[B3,if_pos oa,B9,B4]
    .exact h
   .exact h
  .exact h
 .exact h
theorem AFY(hl:Lay P t id)(ho:∀k o,σ k=some o->ObjOK P fr w G k o){k:IntKind}{v:Value}
 (d:rT σ t i s=some r)(M:Gives r u)(h:SR P w G s v):
 u.wr=[]/\∃z,(Instr.indexAt id v (.int k i)).run P w=.ok z w/\SR P w G u.sv z:=by
 have I:∀{e:Ty} {el:Nat},P.underlying id=some (.slice el)->Lay P e el->∀{ad:Addr} {len m:Nat},0<=i->i.toNat<len->
  (Instr.indexAt id (.slice (some ad) len m) (.int k i)).run P w=.ok (.pointer (some (ad.add (i.toNat*e.sz)))) w:=by
  intro e el l j ad len m h0 h8;obtain⟨x0,E,X⟩:=j.cells;simp only[Instr.indexAt,Sem.run_bind,asIntOf,Sem.run_pure,Result.andThen_ok,run_underlying l];rw[if_pos ⟨h0,oa⟩];simp only[Sem.run_bind,run_sizeOf w E,X,Result.andThen_ok,Sem.run_pure]
 have A:∀{e:Ty} {R:List e.T} {el:Nat},P.underlying id=some (.slice el)->Lay P e el->VRel w G.im (.slice e) R v->∀{u:Upd},Gives (Y7 e R i) u->
  u.wr=[]/\∃z,(Instr.indexAt id v (.int k i)).run P w=.ok z w/\SR P w G u.sv z:=by
  intro e R el l j hv u M;obtain⟨y,K,rfl⟩:=M.may_inv;obtain⟨h1,B,L⟩:=at?_some K;obtain⟨a,m,rfl,k1,k2,k3⟩:=sY hv;cases a with
  |none=>grind
  |some ad=>
   have⟨J,H⟩:=k3 ad rfl;have⟨c,X,h6⟩:=H _ _ L;obtain⟨bb,oo,sp⟩:=ad;simp only at J;have J:=J (by have:=k1.1;omega);subst J;refine⟨rfl,_,I l j h1 B,_,rfl,_,c,rfl,?_,?_,h6⟩
   .rw[MC]
   .rw[MC];exact X
 unfold rT at d;split at d
 .rename_i e;obtain⟨el,l,j,_⟩:=hl.slice;split at d
  .rename_i k' g;split at d
   .rename_i x3 V R g' wr hk;cases C:(Nat.beq g g'&&V.same e)with
    |false=>grind
    |true=>
     rw[C]at d;simp only[A6]at d;simp only[A5]at C;have Q:=A4 C.1;have O:=Ty.same_eq C.2;subst Q O;have⟨D,v',h1,B⟩:=ho _ _ hk;rw[PT h]at h1;cases h1;cases wr with
     |false=>cases d;exact A l j ⟨_,rfl,VE B⟩ M
     |true=>
      cases d;obtain⟨y,K,rfl⟩:=M.may_inv;obtain⟨J,H⟩:=in?_some K;rcases B with⟨rfl,rfl⟩|⟨b,m,cs,rfl,_⟩
      .simp at H
      .refine⟨rfl,_,I l j J H,_,rfl,b,0,R.length,m,V,0,PT h,D,H,by cases V<;>first|rfl|(rename_i t;cases t<;>rfl),⟨V,by cases V<;>first|rfl|(rename_i t;cases t<;>rfl),rfl⟩,?_⟩;rw[MC];simp
   .rename_i x5 T U R gk hh wr hk;cases C:(Nat.beq g 0&&(E2 T U).same e)with
    |false=>grind
    |true=>
     rw[C]at d;simp only[A6]at d;simp only[A5]at C;have Q:=A4 C.1;have O:=Ty.same_eq C.2;subst Q O;have h5:=ho _ _ hk;cases wr with
     |false=>cases d;obtain⟨v',h1,B⟩:=h5;rw[PT h]at h1;cases h1;exact A (e:=E2 T U) l j ⟨_,rfl,B⟩ M
     |true=>
      cases d;obtain⟨y,K,rfl⟩:=M.may_inv;obtain⟨J,H⟩:=in?_some K;obtain⟨h0,D,v',us,bs,h1,_,_,_,⟨v2,B,_,L⟩,_⟩:=h5;have hv:v'=v2:=(AC.1 B);subst hv;have W:=h1;rw[PT h]at W;cases W;rcases L with⟨L,_⟩|⟨_,rfl,h4,_⟩|⟨_,b,o,m,cells,x2,rfl,h4,_⟩
      .grind
      .grind
      .refine⟨rfl,_,I l j J H,_,rfl,b,o,_,m,E2 T U,0,h1,D,H,by cases (E2 T U)<;>first|rfl|(rename_i t;cases t<;>rfl),⟨E2 T U,by cases (E2 T U)<;>first|rfl|(rename_i t;cases t<;>rfl),rfl⟩,?_⟩;rw[MC];simp
   .cases d
  grind[KK]
 .rename_i n e;obtain⟨el,l,j,_,x4⟩:=hl.arr;obtain⟨x0,E,X⟩:=j.cells;have N:∀{ad:Addr},0<=i->i.toNat<n->(Instr.indexAt id (.pointer (some ad)) (.int k i)).run P w=.ok (.pointer (some (ad.add (i.toNat*e.sz)))) w:=by intro ad h0 h8;simp only[Instr.indexAt,Sem.run_bind,asIntOf,Sem.run_pure,Result.andThen_ok,run_underlying l,Instr.sureAddr];rw[if_pos ⟨h0,oa⟩];simp only[Sem.run_bind,run_sizeOf w E,X,Result.andThen_ok,Sem.run_pure]
  replace h:=tB ho h;generalize QX σ s=s at d h;split at d
  .rename_i k' p u';cases C:u'.same (.arr n e)with
   |false=>grind
   |true=>rw[C]at d;cases d;have:=Ty.same_eq C;subst this;obtain⟨y,K,rfl⟩:=M.may_inv;obtain⟨J,H⟩:=in?_some K;obtain⟨b,t,o,h1,B,L,rfl⟩:=NR h;refine⟨rfl,_,N J H,_,rfl,b,t,o,n,e,0,h1,B,L,H,by cases e<;>first|rfl|(rename_i t;cases t<;>rfl),⟨e,by cases e<;>first|rfl|(rename_i t;cases t<;>rfl),rfl⟩,?_⟩;rw[MC];simp
  .rename_i u' x;split at d
   .rename_i R h7;cases d;obtain⟨y,K,rfl⟩:=M.may_inv;obtain⟨h1,B,L⟩:=at?_some K;obtain⟨ad,c,rfl,k1,k2,k3⟩:=T9 h;have h9:u'.sz=(Ty.arr n e).sz:=by obtain⟨ee,_⟩:=Ty.cast?_some h7;rw[ee]
    have x1:=Rel.cast h7 k3;obtain⟨m1,m2,m3⟩:=x1;obtain⟨bb,oo,sp⟩:=ad;simp only at k1;subst k1;have Y:i.toNat<n:=by rw[<-m1];exact B
    have Z:(i.toNat+1)*e.sz<=n*e.sz:=AT _ Y;rw[C8]at Z;refine⟨rfl,_,N h1 Y,_,rfl,_,_,rfl,?_,?_,m3 _ _ L⟩
    .rw[MC]
    .rw[MC];exact k2.sub (by rw[h9];assumption)
   .cases d
  .cases d
 .cases d
theorem AFZ(U:Lay P (.arr n e) id)(V:n<=281474976710656){xs:List e.T}{d b:Nat}{c:List Value}(k2:Row w G.im d b (n*e.sz) c)(k3:Rel w G.im (.arr n e) xs c)
 
 (s:V3 e xs lo hi=some r)(Y:Gives r u)(K:LJ P w G lo vlo)(H:LJ P w G hi vhi):
 u.wr=[]/\∃z,(Instr.sliceAt id (.pointer (some ⟨d,b,none⟩)) vlo vhi none).run P w=.ok z w/\SR P w G u.sv z:=by
 obtain⟨el,Z,J,_,W⟩:=U.arr;obtain⟨h5,O,hc⟩:=J.cells;obtain⟨B,m2,L⟩:=k3;have B:xs.length=n:=B;have L:∀(i:Nat) (x:e.T),xs[i]?=some x->Rel w G.im e x ((c.drop (i*e.sz)).take e.sz):=L;unfold V3 at s;split at s
 .rename_i l M E D;cases s;obtain⟨y,hy,rfl⟩:=Y.may_inv;obtain⟨h1,Q,R,N⟩:=cut?_some hy;have h:=OM D H;rw[B]at h R;have X:=YU (P:=P) (w:=w) (isS:=false) (len:=n) (cap:=n) (OM E K) h h1 Q oa;have a:y.length=M.toNat-l.toNat:=by rw[N];simp only[C9,BQ];omega
  refine⟨rfl,.slice (some (if n=l.toNat then⟨d,b,none⟩else(Addr.mk d b none).add (l.toNat*e.sz))) (M.toNat-l.toNat) (n-l.toNat),?_,?_⟩
  .simp_all[Instr.sliceAt,Sem.run_bind,run_underlying,Result.andThen_ok,Instr.sureAddr,Sem.run_pure,run_sizeOf]
  .rw[<-a];refine A20 ⟨oa,oa⟩ (λT=>by cases T) ?_;intro ad C;cases C;by_cases j:n=l.toNat
   .grind
   .rw[if_neg j,MC];refine⟨λ_=>rfl,λi x A=>?_⟩;have p:xs[l.toNat+i]?=some x:=by
     rw[N,B9,B3]at A;split at A
     .exact A
     .cases A
    have I:l.toNat+i<n:=by rw[<-B];exact(A3.1 p).1
    have m:(l.toNat+i+1)*e.sz<=n*e.sz:=AT _ I;rw[C8]at m;refine⟨_,?_,L _ _ p⟩;have:b+l.toNat*e.sz+i*e.sz=b+(l.toNat+i)*e.sz:=by rw[CP,CN]
    show Row w G.im d (b+l.toNat*e.sz+i*e.sz) e.sz _;rw[this];exact k2.sub oa
 .cases s
theorem AF_(p:Lay P t id)(A:∀k o,σ k=some o->ObjOK P fr w G k o){v:Value}
 (a:dN σ t s lo hi=some r)(B:Gives r u)(h:SR P w G s v)(d:LJ P w G lo vlo)(b:LJ P w G hi vhi):
 u.wr=[]/\∃z,(Instr.sliceAt id v vlo vhi none).run P w=.ok z w/\SR P w G u.sv z:=by
 unfold dN at a;split at a
 .rename_i n e;replace h:=tB A h;generalize QX σ s=s at a h;split at a
  .rename_i H x;split at a
   .rename_i L j;cases y:Nat.ble n 281474976710656 with
    |false=>grind
    |true=>
     rw[y]at a;simp only[A6]at a;obtain⟨ad,c,rfl,k1,C,E⟩:=T9 h;have l:H.sz=(Ty.arr n e).sz:=by obtain⟨D,_⟩:=Ty.cast?_some j;rw[D]
     have m:=Rel.cast j E;obtain⟨I,J,K⟩:=ad;simp only at k1;subst k1;rw[l]at C;exact AFZ p (CJ y) C m a B d b
   .cases a
  .cases a
 .exact AFP p A a B h d b
end
end Go.Ev
