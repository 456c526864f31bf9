/-
  The contracts of Go's library that the law reaches, in the evaluator's terms.
-/
import Derived.Test.YthepbdhoogphdaaGreatDoorE4
import Derived.Below
import Derived.Test.YthepbdhoogphdaaGreatDoorD
import Derived.Shelf.SlSortCmp.WholeK
import Derived.Shelf.SlSortCmp.NoneTotal
import Derived.Lib.QuietBelow
import Derived.Shelf.Strings.Builder1
import Derived.Shelf.Strings.Builder2
import Derived.Shelf.Strings.OnBuilder
import Derived.Shelf.Small.Utf8
import Derived.Shelf.Small.Bits
import Derived.Shelf.Small.Strs
import Derived.Shelf.Small.Wraps
import Derived.Shelf.Strings.BuilderF
import Derived.Shelf.Strings.BuilderK
import Derived.Shelf.Strings.BuilderRune
import Derived.Shelf.Utf8.RuneCount
import Derived.Shelf.Strings.Builder2Cap
import Derived.Shelf.Strconv.Atoi
import Derived.Shelf.Strconv.Itoa0
import Derived.Shelf.Strconv.Itoa1
import Derived.Shelf.LaysM
import Derived.Shelf.Strconv.Itoa2
import Derived.Shelf.Strconv.Itoa3
import Derived.Shelf.Strconv.AtoiErrFast
import Derived.Shelf.Strconv.ParseIntEmpty
import Derived.Shelf.Strconv.AtoiFail
import Derived.Shelf.Strconv.Clone
import Derived.Shelf.Strconv.SyntaxError
import Derived.Shelf.LaysC
import Derived.Shelf.Strconv.ToError
import Derived.Shelf.Strconv.Lower
import Derived.Shelf.Strconv.ParseUint10
import Derived.Shelf.Strconv.ParseUint10Empty
import Derived.Shelf.Strconv.ParseUint10Any
import Derived.Shelf.Strconv.ParseInt10
import Derived.Shelf.Strconv.AtoiLong
import Derived.Shelf.Strconv.AtoiInnerAll
import Derived.Shelf.Strconv.RangeError
import Derived.Shelf.Strconv.ToErrorRange
import Derived.Shelf.Strconv.AtoiAll
import Derived.Shelf.Strconv.ParseUintEmpty
import Derived.Shelf.Strconv.ParseUint10b64
import Derived.Shelf.Strconv.ParseUint10b32
import Derived.Shelf.Strconv.ParseUint10b16
import Derived.Shelf.Strconv.ParseUint10b8
import Derived.Shelf.Strings.Search1
import Derived.Shelf.Strings.Search2
import Derived.Shelf.Strings.Search3
import Derived.Shelf.Strings.Cut
import Derived.Shelf.Strings.Count
import Derived.Shelf.Strings.Shaped
import Derived.Shelf.Sort.Plain
import Derived.Shelf.Strings.LastIndex
import Derived.Shelf.Strings.Prefix
import Derived.Shelf.Strings.Split
import Derived.Shelf.Strings.SplitShaped
import Derived.Shelf.Unicode.Latin
import Derived.Shelf.Unicode.Decode
import Derived.Shelf.Strings.RuneCount
import Derived.Shelf.Strings.Explode
import Derived.Shelf.Bits.Mul64
import Derived.Shelf.Strings.Repeat
import Derived.Shelf.Unicode.DecodeSlow
import Derived.Shelf.Unicode.DecodeAny
import Derived.Shelf.Strings.FieldsFuncAny
import Derived.Shelf.Unicode.CaseLookup
import Derived.Shelf.Unicode.CaseConvert
import Derived.Shelf.Unicode.CaseTo
import Derived.Shelf.Unicode.CaseLaid
import Derived.Shelf.Strings.MapAny
import Derived.Shelf.Strings.CaseAny
import Derived.Shelf.Strings.FieldsFuncGrows
import Derived.Shelf.Slices.Turned
import Derived.Shelf.Slices.Equal
import Derived.Ground.Names2Prog
import Derived.Shelf.Slices.Clone
import Derived.Shelf.Slices.CompactS
import Derived.Shelf.Slices.SearchI
import Derived.Shelf.Slices.Cells
import Derived.Shelf.Slices.In.SortNone
import Derived.Shelf.Slices.Empties2
import Derived.Ground.SlgnProg
import Derived.Shelf.SlicesE.Clone
import Derived.Ground.SlsfProg
import Derived.Shelf.SlSortCmp.Insertion
import Derived.Shelf.SlSortCmp.Insertion1
import Derived.Test.YthepbdhoogphdaaGreatDoorProg
import Derived.Lib.AppendIntMem
import Derived.Shelf.SlicesE.DeleteFunc
import Derived.Lib.SliceRun
set_option linter.unusedVariables false
set_option linter.unusedSimpArgs false
set_option linter.unusedSectionVars false
set_option maxRecDepth 100000
namespace Go.Ev
variable [Pins]
open Go.RowKit
def imNew (I:Im) (X:Nat→Nat→Prop):Im:=⟨fun b o=>I.cell b o∨X b o,I.obj⟩
theorem After.below {w w':World} {I:Im} (hm:Mem w I) (hb:Below w.heap.size w w') {X:Nat→Nat→Prop} (hx:∀ b o,X b o→w.heap.size≤b∧b<w'.heap.size) :
 After (·∈([]:List Nat)) w I w' (imNew I X):=by
 have he:Ext w I w' (imNew I X):=⟨fun b o h=>⟨.inl h,by simp only [World.cell?,hb.block b (hm.1 b o h)]⟩,fun b h=>⟨h,hb.block b (hm.2.1 b h)⟩⟩
 exact ⟨he,fun b hlt _=>hb.block b hlt,hb.size,fun b o h=>h.imp id fun h=>.inl (hx b o h).1,fun b h=>.inl h,
  fun b o h=>h.elim (fun h=>Nat.lt_of_lt_of_le (hm.1 b o h) hb.size) fun h=>(hx b o h).2,fun b h=>Nat.lt_of_lt_of_le (hm.2.1 b h) hb.size,hb.os,hb.tape,hb.output,hm.2.2.ext he⟩
theorem FunOK.given {P:Program} {f:Nat} {sp:FSpec} (h:∀ (w:World) (I:Im) (v:TupR sp.ps) (args:List Value) (bs:List Nat),Mem w I→ShL P w I sp.ps v args bs→∀ r,sp.F v=some r→bs=[] ∧
 Calls P f args.toArray w fun e w'=>∃ rv vs X,e=.returned rv∧vs.length=sp.rs.length∧retIs vs rv∧Below w.heap.size w w'∧(sp.dr=true→w.drawn≤w'.drawn)∧(∀ b o,X b o→w.heap.size≤b∧b<w'.heap.size) ∧
  ShL P w' (imNew I X) (sp.rs++sp.ps.filter isBox) r (vs++uoy_ sp.ps args) []):FunOK P f sp:=by
 intro w I v args bs hm hsh hnd r hr
 obtain ⟨rfl,hc⟩:=h w I v args bs hm hsh r hr
 refine hc.mono fun e w' ⟨rv,vs,X,h1,h2,h3,h4,h7,h5,h6⟩=>?_
 exact ⟨rv,vs,imNew I X,[],h1,h2,h3,After.below hm h4 h5,h6,.nil,(fun b hb=>by cases hb),h7⟩
def noX:Nat→Nat→Prop:=fun _ _=>False
theorem ub8j_ {w w':World}:∀ b o,noX b o→w.heap.size≤b∧b<w'.heap.size:=fun _ _ h=>h.elim
section
variable {P:Program} {w:World} {I:Im}
theorem ubkr_ {x:Str} {v:Value} (h:VRel w I .str x v):v=.string ⟨x.toArray⟩∧x.length≤281474976710656:=by
 obtain ⟨c,h1,h2,h3⟩:=h
 have h1:c=[v]:=h1
 rw [h1] at h2
 cases h2
 exact ⟨rfl,h3⟩
theorem ucfi_ {k:IntKind} {n:Int} {v:Value} (h:VRel w I (.int k) n v):v=.int k n∧uq0_ k n:=by
 obtain ⟨c,h1,h2,h3⟩:=h
 have h1:c=[v]:=h1
 rw [h1] at h2
 cases h2
 exact ⟨rfl,h3⟩
theorem ucjj_ {b:Bool} {v:Value} (h:VRel w I .bool b v):v=.bool b:=by
 obtain ⟨c,h1,h2⟩:=h
 have h1:c=[v]:=h1
 have h2:c=[.bool b]:=h2
 rw [h1] at h2
 cases h2
 rfl
theorem ubks_ {x:Str} (h:x.length≤281474976710656):VRel w I .str x (.string ⟨x.toArray⟩):=⟨_,rfl,rfl,h⟩
theorem ub93_ {k:IntKind} {n:Int} (h:uq0_ k n):VRel w I (.int k) n (.int k n):=⟨_,rfl,rfl,h⟩
theorem ub8k_ {b:Bool}:VRel w I .bool b (.bool b):=⟨_,rfl,rfl⟩
theorem in1 {a:Ty} {x:a.T} {args:List Value} {bs:List Nat} (h:ShL P w I [.val a] x args bs):bs=[]∧∃ v,args=[v]∧VRel w I a x v:=by
 obtain ⟨v,rfl,h1,rfl⟩:=h
 exact ⟨rfl,v,rfl,h1⟩
theorem in2 {a b:Ty} {x:a.T×b.T} {args:List Value} {bs:List Nat} (h:ShL P w I [.val a,.val b] x args bs):bs=[]∧∃ v u,args=[v,u]∧VRel w I a x.1 v∧VRel w I b x.2 u:=by
 obtain ⟨v,vs,b1,b2,rfl,rfl,⟨h1,rfl⟩,u,rfl,h2,rfl⟩:=h
 exact ⟨rfl,v,u,rfl,h1,h2⟩
theorem out1 {a:Ty} {x:a.T} {v:Value} (h:VRel w I a x v):ShL P w I [.val a] x [v] []:=⟨v,rfl,h,rfl⟩
theorem out2 {a b:Ty} {x:a.T×b.T} {v u:Value} (h:VRel w I a x.1 v) (k:VRel w I b x.2 u):ShL P w I [.val a,.val b] x [v,u] [] :=
 ⟨v,[u],[],[],rfl,rfl,⟨h,rfl⟩,u,rfl,k,rfl⟩
theorem out3 {a b c:Ty} {x:a.T×b.T×c.T} {v u t:Value} (h:VRel w I a x.1 v) (k:VRel w I b x.2.1 u) (m:VRel w I c x.2.2 t):ShL P w I [.val a,.val b,.val c] x [v,u,t] [] :=
 ⟨v,[u,t],[],[],rfl,rfl,⟨h,rfl⟩,u,[t],[],[],rfl,rfl,⟨k,rfl⟩,t,rfl,m,rfl⟩
end
theorem FunOK.flat1 {P:Program} {f:Nat} {sp:FSpec} {t:Ty} (hrs:sp.rs=[.val t]) (hps:sp.ps.filter isBox=[]) (hbv:∀ args,uoy_ sp.ps args=[])
 (h:∀ (w:World) (I:Im) (v:TupR sp.ps) (args:List Value) (bs:List Nat),Mem w I→ShL P w I sp.ps v args bs→∀ r,sp.F v=some r→bs=[] ∧
  ∃ rv,(∀ w' I',ShL P w' I' (sp.rs++sp.ps.filter isBox) r [rv] [])∧Calls P f args.toArray w fun e w'=>e=.returned rv∧Below w.heap.size w w'∧(sp.dr=true→w.drawn≤w'.drawn)):FunOK P f sp:=by
 refine FunOK.given fun w I v args bs hm hsh r hr=>?_
 obtain ⟨h1,rv,h2,h3⟩:=h w I v args bs hm hsh r hr
 refine ⟨h1,h3.mono fun e w' ⟨he,hb,hd⟩=>⟨rv,[rv],noX,he,by rw [hrs]; rfl,rfl,hb,hd,ub8j_,?_⟩⟩
 rw [hbv]
 exact h2 w' _
end Go.Ev
namespace Go.Ev.Pv
variable [Pins]
open Go.Proofs Go.RowKit Go.Sort Go.Shelf
theorem ub3s_ {P:Program} {g:Nat} (h:um_ P g):∀ args w,(callFunc g args).run P w=.ok (.enter g args) w:=by
 obtain ⟨fn,c,h1,h2,h3⟩:=h
 intro args w
 have h2':fn.name≠"runtime.NumGoroutine" := by simpa using h2
 simp [callFunc,h1,h2',h3]
theorem ub3t_ {α:Type} [Inhabited α] (enc:α→Value) (w:World) (blk off:Nat) (d:Array α) (k:Nat) (h:k≠blk):(putRow enc w blk off d).heap[k]? = w.heap[k]?:=by
 simp only [putRow,mapBlock,Array.getElem?_modify]
 rw [if_neg (fun e=>h e.symm)]
theorem ubtg_ {α:Type} [Inhabited α] (enc:α→Value) (w:World) (blk off:Nat) (d:Array α) {cs:Array Value} {el:TypeId} {fz:Nat×Nat} (h:w.heap[blk]? = some (.cells cs el fz)) :
 (putRow enc w blk off d).heap[blk]? = some (.cells (putCells enc off d cs) el fz):=by
 simp only [putRow,mapBlock,Array.getElem?_modify,h]
 simp [onCells]
theorem ubfi_ (w:World) (os:Array Go.Obj) (k:Nat) (h:k<w.heap.size):(grow w os).heap[k]? = w.heap[k]?:=by
 simp only [grow]
 rw [Array.getElem?_append_left h]
section
variable {P:Program} {w:World} {I:Im}
theorem ub0o_ {α:Type} [Inhabited α] {enc:α→List Value} {k b:Nat} {n:Nat} {D:Array α} {os:Array Go.Obj} {cs:Array Value} {el:TypeId} {fz:Nat×Nat} (hb:w.heap[b]? = some (.cells cs el fz)) :
 (sortWorldK enc k w b 0 n D os).heap[b]? = some (.cells (putCells id 0 (flatK enc k D) cs) el fz)∧(∀ j,j≠b→j<w.heap.size→(sortWorldK enc k w b 0 n D os).heap[j]? = w.heap[j]?) ∧
 w.heap.size≤(sortWorldK enc k w b 0 n D os).heap.size∧(sortWorldK enc k w b 0 n D os).drawn=w.drawn+n:=by
 have hlt:b<w.heap.size:=(Array.getElem?_eq_some_iff.1 hb).1
 unfold sortWorldK putRowK
 refine ⟨?_,fun j hj hjl=>?_,?_,rfl⟩
 · rw [ubfi_ _ _ _ (by simpa using hlt)]
   exact ubtg_ id _ b 0 _ hb
 · rw [ubfi_ _ _ _ (by simpa using hjl)]
   exact ub3t_ id _ b 0 _ j hj
 · simp
theorem ubxv_ {α:Type} [Inhabited α] {enc:α→List Value} {k b:Nat} {n:Nat} {D:Array α} {os:Array Go.Obj} {cs:Array Value} {el:TypeId} {fz:Nat×Nat} (hb:w.heap[b]? = some (.cells cs el fz))
 (hm:Mem w I) (hI:∀ o,¬ I.cell b o) (hO:¬ I.obj b):Ext w I (sortWorldK enc k w b 0 n D os) I∧Mem (sortWorldK enc k w b 0 n D os) I:=by
 obtain ⟨h1,h2,h3,h4⟩:=ub0o_ (enc:=enc) (k:=k) (n:=n) (D:=D) (os:=os) hb
 have hx:Ext w I (sortWorldK enc k w b 0 n D os) I:=⟨fun j o h=>⟨h,by simp only [World.cell?,h2 j (fun e=>hI o (e▸h)) (hm.1 j o h)]⟩,fun j h=>⟨h,h2 j (fun e=>hO (e▸h)) (hm.2.1 j h)⟩⟩
 exact ⟨hx,fun j o h=>Nat.lt_of_lt_of_le (hm.1 j o h) h3,fun j h=>Nat.lt_of_lt_of_le (hm.2.1 j h) h3,hm.2.2.ext hx⟩
theorem ucgu_ {ρ:Ren} {f el:Nat} {p:Ty} (L:SlLaysF0.n6 P ρ) (hf:ρ.f 6=f) (aE:∀ w,(isAgg (ρ.t 24)).run P w=.ok true w) (zE:∀ w,(Go.sizeOf (ρ.t 24)).run P w=.ok p.sz w) (hp:0<p.sz) :
 FunOK P f ⟨[.io el (.agg p),.hof true (.prod (.agg p) (.agg p)) (.int .i64)],[],fun v=>ub40_ v.1 v.2,true⟩:=by
 subst hf
 intro w I v args bs hm hsh hnd r hr
 obtain ⟨v1,vs,b1,b2,rfl,rfl,h1,v2,rfl,rfl,g,lb,hv2,hent,hof⟩:=hsh
 obtain rfl:=List.singleton_inj.1 hv2
 obtain ⟨xs,F⟩:List p.T×(p.T×p.T→Option Int):=v
 have hr:ub40_ xs F=some r:=hr
 have none_:∀ (a:Option Addr) (cap:Nat),v1=.slice a 0 cap→xs=[] →
  Calls P (ρ.f 6) #[v1,.func (.func g) #[] lb] w fun e w'=>∃ rv vs I' bs',e=.returned rv∧vs.length=0∧retIs vs rv∧After (·∈b1++[]) w I w' I' ∧
   ShL P w' I' [.io el (.agg p)] r (vs++[v1]) bs'∧bs'.Nodup∧(∀ b∈bs',b∈b1++[]∨w.heap.size≤b)∧(true=true→w.drawn≤w'.drawn):=by
  intro a cap hv hxs
  subst hxs
  have hr:r=([]:List p.T):=by
   have:ub40_ ([]:List p.T) F=some []:=rfl
   rw [this] at hr; cases hr; rfl
  subst hv
  refine (AnyF.slices_SortFunc_none L a cap _ w).mono fun e w' ⟨he,hw⟩=>?_
  subst hw
  rw [List.append_nil] at hnd ⊢
  refine ⟨_,[],I,b1,he,rfl,rfl,After.refl hm,⟨_,rfl,?_⟩,hnd,fun b hb=>.inl hb,fun _=>Nat.le_refl _⟩
  rw [hr]; exact h1
 rcases h1 with ⟨e1,e2,rfl⟩ | ⟨b,cap,cells,e1,rfl,hl,⟨fz,hb,hfz⟩,hcs,hrow,hI,_,hO⟩
 · exact none_ none 0 (List.singleton_inj.1 e1) e2
 · have e1:v1=.slice (some ⟨b,0,none⟩) xs.length cap:=List.singleton_inj.1 e1
   by_cases h0:0<xs.length
   · subst e1
     unfold ub40_ at hr
     rw [dif_pos h0] at hr
     obtain ⟨⟨hs1,hs2,hs3,hs4⟩,hr⟩:=ubbe_ hr
     have hr:(ubqs_ xs F h0).toList.map xs.get=r:=Option.some.inj hr
     letI:Inhabited (Fin xs.length):=⟨⟨0,h0⟩⟩
     let k:=p.sz
     have hcs:cells.size=cap*k:=hcs
     have hcap:xs.length≤cap:=hl.1
     have hmul:∀ i,i<xs.length→i*k+k≤cells.size:=by
      intro i hi
      have:(i+1)*k≤cap*k:=Nat.mul_le_mul_right k (by omega)
      rw [hcs]; rw [Nat.add_mul] at this; omega
     let enc:Fin xs.length→List Value:=fun i=>(cells.toList.drop (i.val*k)).take k
     have hrel:∀ i:Fin xs.length,Rel w I (.agg p) (xs.get i) (enc i):=fun i=>hrow i.val (xs.get i) (List.getElem?_eq_getElem i.isLt)
     have hk:∀ x,(enc x).length=k:=by
      intro x
      have:=hmul x.val x.isLt
      simp only [enc,List.length_take,List.length_drop,Array.length_toList]
      omega
     have hone:∀ x,∀ v∈enc x,v.oneCell'=true:=fun x=>(hrel x).oneCell
     have hget:∀ (i:Fin xs.length) (c:Nat),c<k→(enc i)[c]! = cells[i.val*k+c]!:=by
      intro i c hc
      have h2:=hmul i.val i.isLt
      have hlt:i.val*k+c<cells.size:=by omega
      rw [getElem!_pos (enc i) c (by rw [hk]; exact hc),getElem!_pos cells _ hlt]
      simp [enc]
     have hO':SWO (ltOf (cfAt xs F)):=⟨fun x=>hs2 x,fun x y z=>hs3 x y z,fun x y z=>hs4 x y z⟩
     have hcmp:CmpLays P g lb enc k (cfAt xs F) b 0 xs.length w:=by
      intro m os dk _ x y
      obtain ⟨hx,hm'⟩:=ubxv_ (enc:=enc) (k:=k) (n:=m) (D:=dk) (os:=os) hb hm (hI rfl) hO
      obtain ⟨c,hc⟩:=Option.isSome_iff_exists.1 (hs1 x y)
      have:=hof _ I hx hm' (xs.get x,xs.get y) [.agg (enc x).toArray,.agg (enc y).toArray]
       ⟨_,_,rfl,⟨enc x,rfl,(hrel x).ext hx⟩,_,rfl,enc y,rfl,(hrel y).ext hx⟩ c hc
      refine this.mono fun e w'' ⟨rv,I'',q1,q2,⟨c',q3,q4,_⟩,q5⟩=>?_
      have q3:c'=[rv]:=q3
      rw [q3] at q4
      have q4:rv=.int .i64 c:=List.singleton_inj.1 q4
      refine ⟨?_,?_⟩
      · rw [q1,q4]; unfold cfAt; rw [hc]; rfl
      · obtain ⟨⟨d,os'⟩,hw⟩:=regrown_of_below (w:=sortWorldK enc k w b 0 m dk os) (w':=w'') ⟨q2.os,q2.tape,q2.output,q2.size,fun j hj=>q2.heap j hj fun h=>h⟩
        have hd:=q5 rfl
        refine ⟨d-(sortWorldK enc k w b 0 m dk os).drawn,os',?_⟩
        have hdd:w''.drawn=d:=by rw [hw]; rfl
        rw [hw]
        simp only [grow,redrawn,World.drewN]
        congr 1
        omega
     have hds:(Array.ofFn (id:Fin xs.length→Fin xs.length)).size=xs.length:=by simp
     have hdi:∀ (j:Nat) (hj:j<xs.length),(Array.ofFn (id:Fin xs.length→Fin xs.length))[j]! = ⟨j,hj⟩:=by
      intro j hj
      rw [getElem!_pos _ j (by simpa using hj)]
      simp
     have hdm:∀ j,j<xs.length*k→j / k<xs.length∧j % k<k∧j / k*k+j % k=j:=fun j hj =>
      ⟨(Nat.div_lt_iff_lt_mul hp).2 hj,Nat.mod_lt _ hp,Nat.div_add_mod' j k⟩
     have hH:HoldsK enc k w b 0 (Array.ofFn (id:Fin xs.length→Fin xs.length)):=by
      intro j hj
      rw [size_flatK,hds] at hj
      obtain ⟨d1,d2,d3⟩:=hdm j hj
      rw [get_flatK _ _ _ _ (by rw [hds]; exact hj),hdi _ d1,hget _ _ d2,d3]
      have hjc:j<cells.size:=by
       have:=hmul _ d1
       have:j<j / k*k+k:=by omega
       omega
      refine ⟨?_,?_⟩
      · simp only [World.cell?,hb,Nat.zero_add,id]
        rw [getElem!_pos cells j hjc]
        simp [hjc]
      · simp only [World.frozen?,hb,Nat.zero_add]
        rcases hfz with h | h
        · simp; omega
        · simp; omega
     have hblk:b<w.heap.size:=(Array.getElem?_eq_some_iff.1 hb).1
     have hsz:(Array.ofFn (id:Fin xs.length→Fin xs.length)).size<4611686018427387904:=by rw [hds]; have:xs.length≤281474976710656:=hl.2; omega
     have hcon:=AnyQ.slices_SortFunc_eq L k aE zE enc hk hone (cfAt xs F) hO' g lb b 0 cap (Array.ofFn id) w (ub3s_ hent) (by rw [hds]; exact hcmp) hH hblk hsz
     have hsorts:=pdq_sorts (ltOf (cfAt xs F)) hO' (Array.ofFn (id:Fin xs.length→Fin xs.length)) 0 xs.length (Lib.bitLen xs.length) true true (Nat.zero_le _) (by rw [hds]; exact Nat.le_refl _) (.inl rfl)
     rw [hds] at hcon
     have hD:pdq (ltOf (cfAt xs F)) (Array.ofFn (id:Fin xs.length→Fin xs.length)) 0 xs.length (Lib.bitLen xs.length) true true=ubqs_ xs F h0:=(ub91_ xs F h0).symm
     rw [hD] at hcon hsorts
     have hDs:(ubqs_ xs F h0).size=xs.length:=by have:=hsorts.1.1; rw [hds] at this; exact this
     refine hcon.mono fun e w' ⟨he,n,os,hw⟩=>?_
     obtain ⟨a1,a2,a3,a4⟩:=ub0o_ (enc:=enc) (k:=k) (n:=n) (D:=ubqs_ xs F h0) (os:=os) hb
     obtain ⟨x1,x2⟩:=ubxv_ (enc:=enc) (k:=k) (n:=n) (D:=ubqs_ xs F h0) (os:=os) hb hm (hI rfl) hO
     rw [← hw] at a1 a2 a3 a4 x1 x2
     have hlen:(show List p.T from r).length=xs.length:=by
      have:((ubqs_ xs F h0).toList.map xs.get).length=xs.length:=by rw [List.length_map,Array.length_toList,hDs]
      rw [hr] at this; exact this
     have hpc:(putCells id 0 (flatK enc k (ubqs_ xs F h0)) cells).size=cells.size:=by simp [putCells]
     refine ⟨_,[],I,[b],he,rfl,rfl,⟨x1,fun j hj hn=>a2 j (fun e=>hn (by rw [e]; simp)) hj,a3,fun _ _ h=>.inl h,fun _ h=>.inl h,x2.1,x2.2.1,by rw [hw]; rfl,by rw [hw]; rfl,by rw [hw]; rfl,x2.2.2⟩,?_,by simp,fun j hj=>.inl (by simpa using hj),fun _=>by rw [a4]; omega⟩
     refine ⟨_,rfl,.inr ⟨b,cap,_,?_,rfl,?_,⟨fz,a1,by rw [hpc]; exact hfz⟩,by rw [hpc]; exact hcs,?_,hI,(fun h=>by cases h),hO⟩⟩
     · exact congrArg (fun n=>[Value.slice (some ⟨b,0,none⟩) n cap]) hlen.symm
     · have:LenOK xs.length cap:=hl
       rw [← hlen] at this; exact this
     · intro i y hy
       have hy:((ubqs_ xs F h0).toList.map xs.get)[i]? = some y:=by rw [hr]; exact hy
       rw [List.getElem?_map] at hy
       cases hi:(ubqs_ xs F h0).toList[i]? with
       | none=>rw [hi] at hy; cases hy
       | some q =>
         rw [hi] at hy
         cases hy
         have hil:i<xs.length:=by have:=(List.getElem?_eq_some_iff.1 hi).1; rw [Array.length_toList,hDs] at this; exact this
         have hDi:(ubqs_ xs F h0)[i]! = q:=by
          have:=(List.getElem?_eq_some_iff.1 hi).2
          rw [getElem!_pos _ i (by rw [hDs]; exact hil)]
          simpa using this
         have heq:((putCells id 0 (flatK enc k (ubqs_ xs F h0)) cells).toList.drop (i*k)).take k=enc q:=by
          apply List.ext_getElem?
          intro c
          by_cases hc:c<k
          · have hlt:i*k+c<cells.size:=by have:=hmul i hil; omega
            have hlt2:i*k+c<xs.length*k:=by
             have:(i+1)*k≤xs.length*k:=Nat.mul_le_mul_right k (by omega)
             rw [Nat.add_mul] at this; omega
            have hdiv:(i*k+c) / k=i:=by rw [Nat.mul_comm,Nat.mul_add_div hp,Nat.div_eq_of_lt hc]; omega
            have hmod:(i*k+c) % k=c:=by rw [Nat.mul_comm,Nat.mul_add_mod,Nat.mod_eq_of_lt hc]
            rw [List.getElem?_take,if_pos hc,List.getElem?_drop,Array.getElem?_toList]
            simp only [putCells,Array.getElem?_mapIdx]
            rw [Array.getElem?_eq_getElem hlt]
            simp only [Option.map_some]
            rw [if_pos ⟨Nat.zero_le _,by rw [size_flatK,hDs]; omega⟩,Nat.sub_zero,get_flatK _ _ _ _ (by rw [hDs]; exact hlt2),hdiv,hmod,hDi]
            rw [getElem!_pos (enc q) c (by rw [hk]; exact hc)]
            simp [hk,hc]
          · rw [List.getElem?_eq_none (by simp; omega),List.getElem?_eq_none (by rw [hk]; omega)]
         rw [show (Ty.agg p).sz=k from rfl,heq]
         exact (hrel q).ext x1
   · have hx:xs=[]:=List.eq_nil_of_length_eq_zero (by omega)
     exact none_ (some ⟨b,0,none⟩) cap (by rw [e1,hx]; rfl) hx
end
end Go.Ev.Pv
namespace Go.Proofs
open Go.Shelf
def Tryz.lays169_ren:Go.Shelf.Ren:=⟨fun | 169=>122 | n=>n,fun | 70=>194 | 9=>9 | 0=>0 | 72=>197 | 37=>195 | 127=>254 | 3=>3 | 5=>5 | n=>n,fun | n=>n⟩
theorem Tryz.lays169:Go.Proofs.Lays.n169 Tryz.prog Tryz.lays169_ren:={
 mixed:=by kernel_rfl
 f169:=Tryz.func122.trans (congrArg some (by kernel_rfl))
 t0:=Tryz.underlying0
 a0:=Tryz.isAgg0
 z0:=Tryz.sizeOf0
 v0:=Tryz.zeroValue0
 t3:=Tryz.underlying3
 a3:=Tryz.isAgg3
 z3:=Tryz.sizeOf3
 v3:=Tryz.zeroValue3
 t9:=Tryz.underlying9
 a9:=Tryz.isAgg9
 z9:=Tryz.sizeOf9
 v9:=Tryz.zeroValue9
 t37:=Tryz.underlying195
 a37:=Tryz.isAgg195
 z37:=Tryz.sizeOf195
 v37:=Tryz.zeroValue195
 t70:=Tryz.underlying194
 a70:=Tryz.isAgg194
 z70:=Tryz.sizeOf194
 v70:=Tryz.zeroValue194
 t72:=Tryz.underlying197
 a72:=Tryz.isAgg197
 z72:=Tryz.sizeOf197
 v72:=Tryz.zeroValue197
 t127:=Tryz.underlying254
 a127:=Tryz.isAgg254
 z127:=Tryz.sizeOf254
 v127:=Tryz.zeroValue254 }
theorem Tryz.Builder_Extra_169:Builder.Extra Tryz.prog Tryz.lays169_ren:={
 sizeBuilder:=by kernel_rfl
 liesBuilder:=by kernel_rfl
 t5:=Tryz.underlying5
 a5:=Tryz.isAgg5
 z5:=Tryz.sizeOf5
 v5:=Tryz.zeroValue5
 infoByte:=by kernel_rfl
 cellsByte:=by kernel_rfl
 sizeByte:=by kernel_rfl
 neB5:=by decide }
def Tryz.lays159_ren:Go.Shelf.Ren:=⟨fun | 159=>66 | 165=>119 | 166=>120 | 167=>121 | 169=>122 | 230=>123 | 204=>124 | 240=>176 | 241=>177 | 197=>178 | 118=>179 | 168=>180 | 270=>181 | 262=>182 | 276=>223 | 277=>224 | 260=>225 | 242=>226 | 313=>227 | 278=>253 | 274=>254 | 275=>255 | n=>n,fun | 9=>9 | 4=>4 | 3=>3 | 5=>5 | 72=>197 | 0=>0 | 76=>201 | 75=>200 | 107=>205 | 70=>194 | 20=>20 | 37=>195 | 127=>254 | 21=>21 | 105=>255 | 164=>292 | 162=>298 | 203=>296 | 119=>319 | 46=>100 | 139=>322 | 138=>321 | 51=>153 | 160=>323 | 208=>345 | 206=>343 | 80=>82 | n=>n,fun | 13=>1 | 3=>2 | 4=>3 | n=>n⟩
theorem Tryz.lays159:Go.Proofs.Lays.n159 Tryz.prog Tryz.lays159_ren:={
 mixed:=by kernel_rfl
 f118:=Tryz.func179.trans (congrArg some (by kernel_rfl))
 f159:=Tryz.func66.trans (congrArg some (by kernel_rfl))
 f165:=Tryz.func119.trans (congrArg some (by kernel_rfl))
 f166:=Tryz.func120.trans (congrArg some (by kernel_rfl))
 f167:=Tryz.func121.trans (congrArg some (by kernel_rfl))
 f168:=Tryz.func180.trans (congrArg some (by kernel_rfl))
 f169:=Tryz.func122.trans (congrArg some (by kernel_rfl))
 f197:=Tryz.func178.trans (congrArg some (by kernel_rfl))
 f204:=Tryz.func124.trans (congrArg some (by kernel_rfl))
 f230:=Tryz.func123.trans (congrArg some (by kernel_rfl))
 f240:=Tryz.func176.trans (congrArg some (by kernel_rfl))
 f241:=Tryz.func177.trans (congrArg some (by kernel_rfl))
 f242:=Tryz.func226.trans (congrArg some (by kernel_rfl))
 f260:=Tryz.func225.trans (congrArg some (by kernel_rfl))
 f262:=Tryz.func182.trans (congrArg some (by kernel_rfl))
 f270:=Tryz.func181.trans (congrArg some (by kernel_rfl))
 f274:=Tryz.func254.trans (congrArg some (by kernel_rfl))
 f275:=Tryz.func255.trans (congrArg some (by kernel_rfl))
 f276:=Tryz.func223.trans (congrArg some (by kernel_rfl))
 f277:=Tryz.func224.trans (congrArg some (by kernel_rfl))
 f278:=Tryz.func253.trans (congrArg some (by kernel_rfl))
 f313:=Tryz.func227.trans (congrArg some (by kernel_rfl))
 t0:=Tryz.underlying0
 a0:=Tryz.isAgg0
 z0:=Tryz.sizeOf0
 v0:=Tryz.zeroValue0
 t3:=Tryz.underlying3
 a3:=Tryz.isAgg3
 z3:=Tryz.sizeOf3
 v3:=Tryz.zeroValue3
 t4:=Tryz.underlying4
 a4:=Tryz.isAgg4
 z4:=Tryz.sizeOf4
 v4:=Tryz.zeroValue4
 t5:=Tryz.underlying5
 a5:=Tryz.isAgg5
 z5:=Tryz.sizeOf5
 v5:=Tryz.zeroValue5
 t9:=Tryz.underlying9
 a9:=Tryz.isAgg9
 z9:=Tryz.sizeOf9
 v9:=Tryz.zeroValue9
 t20:=Tryz.underlying20
 a20:=Tryz.isAgg20
 z20:=Tryz.sizeOf20
 v20:=Tryz.zeroValue20
 t21:=Tryz.underlying21
 a21:=Tryz.isAgg21
 z21:=Tryz.sizeOf21
 v21:=Tryz.zeroValue21
 t37:=Tryz.underlying195
 a37:=Tryz.isAgg195
 z37:=Tryz.sizeOf195
 v37:=Tryz.zeroValue195
 t46:=Tryz.underlying100
 a46:=Tryz.isAgg100
 z46:=Tryz.sizeOf100
 v46:=Tryz.zeroValue100
 t51:=Tryz.underlying153
 a51:=Tryz.isAgg153
 z51:=Tryz.sizeOf153
 v51:=Tryz.zeroValue153
 t70:=Tryz.underlying194
 a70:=Tryz.isAgg194
 z70:=Tryz.sizeOf194
 v70:=Tryz.zeroValue194
 t72:=Tryz.underlying197
 a72:=Tryz.isAgg197
 z72:=Tryz.sizeOf197
 v72:=Tryz.zeroValue197
 t75:=Tryz.underlying200
 a75:=Tryz.isAgg200
 z75:=Tryz.sizeOf200
 v75:=Tryz.zeroValue200
 t76:=Tryz.underlying201
 a76:=Tryz.isAgg201
 z76:=Tryz.sizeOf201
 v76:=Tryz.zeroValue201
 t105:=Tryz.underlying255
 a105:=Tryz.isAgg255
 z105:=Tryz.sizeOf255
 v105:=Tryz.zeroValue255
 t107:=Tryz.underlying205
 a107:=Tryz.isAgg205
 z107:=Tryz.sizeOf205
 v107:=Tryz.zeroValue205
 t119:=Tryz.underlying319
 a119:=Tryz.isAgg319
 z119:=Tryz.sizeOf319
 t127:=Tryz.underlying254
 a127:=Tryz.isAgg254
 z127:=Tryz.sizeOf254
 v127:=Tryz.zeroValue254
 t138:=Tryz.underlying321
 a138:=Tryz.isAgg321
 z138:=Tryz.sizeOf321
 v138:=Tryz.zeroValue321
 t139:=Tryz.underlying322
 a139:=Tryz.isAgg322
 z139:=Tryz.sizeOf322
 v139:=Tryz.zeroValue322
 t160:=Tryz.underlying323
 a160:=Tryz.isAgg323
 z160:=Tryz.sizeOf323
 v160:=Tryz.zeroValue323
 t162:=Tryz.underlying298
 a162:=Tryz.isAgg298
 z162:=Tryz.sizeOf298
 v162:=Tryz.zeroValue298
 t164:=Tryz.underlying292
 a164:=Tryz.isAgg292
 z164:=Tryz.sizeOf292
 v164:=Tryz.zeroValue292
 t203:=Tryz.underlying296
 a203:=Tryz.isAgg296
 z203:=Tryz.sizeOf296
 v203:=Tryz.zeroValue296
 t206:=Tryz.underlying343
 a206:=Tryz.isAgg343
 z206:=Tryz.sizeOf343
 v206:=Tryz.zeroValue343
 t208:=Tryz.underlying345
 a208:=Tryz.isAgg345
 z208:=Tryz.sizeOf345
 v208:=Tryz.zeroValue345
 g3:=by kernel_rfl
 g4:=by kernel_rfl
 g13:=by kernel_rfl }
theorem Tryz.Builder_Extra_159:Builder.Extra Tryz.prog Tryz.lays159_ren:={
 sizeBuilder:=by kernel_rfl
 liesBuilder:=by kernel_rfl
 t5:=Tryz.underlying5
 a5:=Tryz.isAgg5
 z5:=Tryz.sizeOf5
 v5:=Tryz.zeroValue5
 infoByte:=by kernel_rfl
 cellsByte:=by kernel_rfl
 sizeByte:=by kernel_rfl
 neB5:=by decide }
def Tryz.lays156_ren:Go.Shelf.Ren:=⟨fun | 156=>191 | 165=>119 | 166=>120 | 169=>122 | 240=>176 | 241=>177 | 276=>223 | 277=>224 | n=>n,fun | 31=>23 | 9=>9 | 3=>3 | 4=>4 | 0=>0 | 20=>20 | 72=>197 | 76=>201 | 70=>194 | 37=>195 | 75=>200 | 127=>254 | 164=>292 | 5=>5 | 80=>82 | n=>n,fun | n=>n⟩
theorem Tryz.lays156:Go.Proofs.Lays.n156 Tryz.prog Tryz.lays156_ren:={
 mixed:=by kernel_rfl
 f156:=Tryz.func191.trans (congrArg some (by kernel_rfl))
 f165:=Tryz.func119.trans (congrArg some (by kernel_rfl))
 f166:=Tryz.func120.trans (congrArg some (by kernel_rfl))
 f169:=Tryz.func122.trans (congrArg some (by kernel_rfl))
 f240:=Tryz.func176.trans (congrArg some (by kernel_rfl))
 f241:=Tryz.func177.trans (congrArg some (by kernel_rfl))
 f276:=Tryz.func223.trans (congrArg some (by kernel_rfl))
 f277:=Tryz.func224.trans (congrArg some (by kernel_rfl))
 t0:=Tryz.underlying0
 a0:=Tryz.isAgg0
 z0:=Tryz.sizeOf0
 v0:=Tryz.zeroValue0
 t3:=Tryz.underlying3
 a3:=Tryz.isAgg3
 z3:=Tryz.sizeOf3
 v3:=Tryz.zeroValue3
 t4:=Tryz.underlying4
 a4:=Tryz.isAgg4
 z4:=Tryz.sizeOf4
 v4:=Tryz.zeroValue4
 t9:=Tryz.underlying9
 a9:=Tryz.isAgg9
 z9:=Tryz.sizeOf9
 v9:=Tryz.zeroValue9
 t20:=Tryz.underlying20
 a20:=Tryz.isAgg20
 z20:=Tryz.sizeOf20
 v20:=Tryz.zeroValue20
 t31:=Tryz.underlying23
 a31:=Tryz.isAgg23
 z31:=Tryz.sizeOf23
 v31:=Tryz.zeroValue23
 t37:=Tryz.underlying195
 a37:=Tryz.isAgg195
 z37:=Tryz.sizeOf195
 v37:=Tryz.zeroValue195
 t70:=Tryz.underlying194
 a70:=Tryz.isAgg194
 z70:=Tryz.sizeOf194
 v70:=Tryz.zeroValue194
 t72:=Tryz.underlying197
 a72:=Tryz.isAgg197
 z72:=Tryz.sizeOf197
 v72:=Tryz.zeroValue197
 t75:=Tryz.underlying200
 a75:=Tryz.isAgg200
 z75:=Tryz.sizeOf200
 v75:=Tryz.zeroValue200
 t76:=Tryz.underlying201
 a76:=Tryz.isAgg201
 z76:=Tryz.sizeOf201
 v76:=Tryz.zeroValue201
 t127:=Tryz.underlying254
 a127:=Tryz.isAgg254
 z127:=Tryz.sizeOf254
 v127:=Tryz.zeroValue254
 t164:=Tryz.underlying292
 a164:=Tryz.isAgg292
 z164:=Tryz.sizeOf292
 v164:=Tryz.zeroValue292 }
theorem Tryz.Builder_Extra_156:Builder.Extra Tryz.prog Tryz.lays156_ren:={
 sizeBuilder:=by kernel_rfl
 liesBuilder:=by kernel_rfl
 t5:=Tryz.underlying5
 a5:=Tryz.isAgg5
 z5:=Tryz.sizeOf5
 v5:=Tryz.zeroValue5
 infoByte:=by kernel_rfl
 cellsByte:=by kernel_rfl
 sizeByte:=by kernel_rfl
 neB5:=by decide }
open Go.RowKit in
theorem Tryz.strings_Join_none (a:Option Addr) (c:Nat) (sep:ByteArray) (w:World) :
 Calls Tryz.prog 191 #[.slice a 0 c,.string sep] w fun e w'=>e=.returned (.string ⟨#[]⟩)∧w'=w:=Any.strings_Join_none Tryz.lays156 Tryz.Builder_Extra_156 a c sep w
open Go.RowKit in
theorem Tryz.strings_Join (bk o c:Nat) (xs:List ByteArray) (sep:ByteArray) (w:World) (hcells:∀ (j:Nat) x,xs[j]? = some x→w.cell? ⟨bk,o+j,none⟩=some (.string x)) (hbk:bk<w.heap.size) (hN:xs.length≤140737488355328) (hcap:xs.length≤c) (hlen:(Lib.join (xs.map (·.data.toList)) sep.data.toList).length≤140737488355328) :
 Calls Tryz.prog 191 #[.slice (some ⟨bk,o,none⟩) xs.length c,.string sep] w fun e w'=>e=.returned (.string ⟨(Lib.join (xs.map (·.data.toList)) sep.data.toList).toArray⟩)∧Below w.heap.size w w':=Any.strings_Join Tryz.lays156 Tryz.Builder_Extra_156 bk o c xs sep w hcells hbk hN hcap hlen
def Tryz.lays137_ren:Go.Shelf.Ren:=⟨fun | 137=>111 | 217=>167 | 266=>219 | n=>n,fun | 9=>9 | 5=>5 | 3=>3 | n=>n,fun | n=>n⟩
theorem Tryz.lays137:Go.Proofs.Lays.n137 Tryz.prog Tryz.lays137_ren:={
 mixed:=by kernel_rfl
 f137:=Tryz.func111.trans (congrArg some (by kernel_rfl))
 f217:=Tryz.func167.trans (congrArg some (by kernel_rfl))
 f266:=Tryz.func219.trans (congrArg some (by kernel_rfl))
 t3:=Tryz.underlying3
 a3:=Tryz.isAgg3
 z3:=Tryz.sizeOf3
 v3:=Tryz.zeroValue3
 t5:=Tryz.underlying5
 a5:=Tryz.isAgg5
 z5:=Tryz.sizeOf5
 v5:=Tryz.zeroValue5
 t9:=Tryz.underlying9
 a9:=Tryz.isAgg9
 z9:=Tryz.sizeOf9
 v9:=Tryz.zeroValue9 }
open Go.RowKit in
theorem Tryz.strings_IndexByte (s:ByteArray) (c:Int) (w:World) :
 Calls Tryz.prog 111 #[.string s,.int .u8 c] w fun e w'=>e=.returned (.int .i64 (Lib.indexByte s.data.toList c.toNat.toUInt8))∧w'=w:=Any.strings_IndexByte Tryz.lays137 s c w
def Tryz.lays103_ren:Go.Shelf.Ren:=⟨fun | 103=>117 | 210=>172 | 206=>220 | n=>n,fun | 9=>9 | 4=>4 | 24=>191 | 3=>3 | n=>n,fun | n=>n⟩
theorem Tryz.lays103:Go.Proofs.Lays.n103 Tryz.prog Tryz.lays103_ren:={
 mixed:=by kernel_rfl
 f103:=Tryz.func117.trans (congrArg some (by kernel_rfl))
 f206:=Tryz.func220.trans (congrArg some (by kernel_rfl))
 f210:=Tryz.func172.trans (congrArg some (by kernel_rfl))
 t3:=Tryz.underlying3
 a3:=Tryz.isAgg3
 z3:=Tryz.sizeOf3
 v3:=Tryz.zeroValue3
 t4:=Tryz.underlying4
 a4:=Tryz.isAgg4
 z4:=Tryz.sizeOf4
 v4:=Tryz.zeroValue4
 t9:=Tryz.underlying9
 a9:=Tryz.isAgg9
 z9:=Tryz.sizeOf9
 v9:=Tryz.zeroValue9
 t24:=Tryz.underlying191
 a24:=Tryz.isAgg191
 z24:=Tryz.sizeOf191
 v24:=Tryz.zeroValue191 }
open Go.RowKit in
theorem Tryz.strings_CutPrefix (s p:ByteArray) (w:World) :
 Calls Tryz.prog 117 #[.string s,.string p] w fun e w'=>e=.returned (.tuple #[.string ⟨(Lib.trimPrefix s.data.toList p.data.toList).toArray⟩,.bool (Lib.hasPrefix s.data.toList p.data.toList)])∧w'=w:=Any.strings_CutPrefix Tryz.lays103 s p w
def Tryz.laysM171_ren:Go.Shelf.Ren:=⟨fun | 171=>161 | 243=>211 | 246=>242 | 283=>261 | 284=>262 | 285=>263 | 286=>264 | 129=>92 | 317=>274 | 318=>275 | 319=>276 | 320=>277 | 337=>282 | 338=>283 | n=>n,fun | 3=>3 | 9=>9 | 2=>2 | 4=>4 | 171=>331 | 0=>0 | 53=>155 | 37=>195 | 5=>5 | 173=>333 | 212=>347 | 51=>153 | 20=>20 | 213=>348 | 46=>100 | 232=>353 | 233=>354 | n=>n,fun | 17=>6 | 18=>7 | 19=>8 | n=>n⟩
theorem Tryz.laysM171:Go.Proofs.LaysM.n171 Tryz.prog Tryz.laysM171_ren:={
 mixed:=by kernel_rfl
 f129:=Tryz.func92.trans (congrArg some (by kernel_rfl))
 f171:=Tryz.func161.trans (congrArg some (by kernel_rfl))
 f243:=Tryz.func211.trans (congrArg some (by kernel_rfl))
 f246:=Tryz.func242.trans (congrArg some (by kernel_rfl))
 f283:=Tryz.func261.trans (congrArg some (by kernel_rfl))
 f284:=Tryz.func262.trans (congrArg some (by kernel_rfl))
 f285:=Tryz.func263.trans (congrArg some (by kernel_rfl))
 f286:=Tryz.func264.trans (congrArg some (by kernel_rfl))
 f317:=Tryz.func274.trans (congrArg some (by kernel_rfl))
 f318:=Tryz.func275.trans (congrArg some (by kernel_rfl))
 f319:=Tryz.func276.trans (congrArg some (by kernel_rfl))
 f320:=Tryz.func277.trans (congrArg some (by kernel_rfl))
 f337:=Tryz.func282.trans (congrArg some (by kernel_rfl))
 f338:=Tryz.func283.trans (congrArg some (by kernel_rfl))
 t0:=Tryz.underlying0
 a0:=Tryz.isAgg0
 z0:=Tryz.sizeOf0
 v0:=Tryz.zeroValue0
 t2:=Tryz.underlying2
 a2:=Tryz.isAgg2
 z2:=Tryz.sizeOf2
 v2:=Tryz.zeroValue2
 t3:=Tryz.underlying3
 a3:=Tryz.isAgg3
 z3:=Tryz.sizeOf3
 v3:=Tryz.zeroValue3
 t4:=Tryz.underlying4
 a4:=Tryz.isAgg4
 z4:=Tryz.sizeOf4
 v4:=Tryz.zeroValue4
 t5:=Tryz.underlying5
 a5:=Tryz.isAgg5
 z5:=Tryz.sizeOf5
 v5:=Tryz.zeroValue5
 t9:=Tryz.underlying9
 a9:=Tryz.isAgg9
 z9:=Tryz.sizeOf9
 v9:=Tryz.zeroValue9
 t20:=Tryz.underlying20
 a20:=Tryz.isAgg20
 z20:=Tryz.sizeOf20
 v20:=Tryz.zeroValue20
 t37:=Tryz.underlying195
 a37:=Tryz.isAgg195
 z37:=Tryz.sizeOf195
 v37:=Tryz.zeroValue195
 t46:=Tryz.underlying100
 a46:=Tryz.isAgg100
 z46:=Tryz.sizeOf100
 v46:=Tryz.zeroValue100
 t51:=Tryz.underlying153
 a51:=Tryz.isAgg153
 z51:=Tryz.sizeOf153
 v51:=Tryz.zeroValue153
 t53:=Tryz.underlying155
 a53:=Tryz.isAgg155
 z53:=Tryz.sizeOf155
 v53:=Tryz.zeroValue155
 t171:=Tryz.underlying331
 a171:=Tryz.isAgg331
 z171:=Tryz.sizeOf331
 v171:=Tryz.zeroValue331
 t173:=Tryz.underlying333
 a173:=Tryz.isAgg333
 z173:=Tryz.sizeOf333
 v173:=Tryz.zeroValue333
 t212:=Tryz.underlying347
 a212:=Tryz.isAgg347
 z212:=Tryz.sizeOf347
 v212:=Tryz.zeroValue347
 t213:=Tryz.underlying348
 a213:=Tryz.isAgg348
 z213:=Tryz.sizeOf348
 t232:=Tryz.underlying353
 a232:=Tryz.isAgg353
 z232:=Tryz.sizeOf353
 v232:=Tryz.zeroValue353
 t233:=Tryz.underlying354
 a233:=Tryz.isAgg354
 z233:=Tryz.sizeOf354
 v233:=Tryz.zeroValue354
 g17:=by kernel_rfl
 g18:=by kernel_rfl
 g19:=by kernel_rfl
 i0:=by kernel_rfl
 i2:=by kernel_rfl
 i3:=by kernel_rfl
 i4:=by kernel_rfl
 i5:=by kernel_rfl
 i9:=by kernel_rfl
 i20:=by kernel_rfl
 i37:=by kernel_rfl
 i46:=by kernel_rfl
 i51:=by kernel_rfl
 i53:=by kernel_rfl
 i171:=by kernel_rfl
 i173:=by kernel_rfl
 i212:=by kernel_rfl
 i232:=by kernel_rfl
 i233:=by kernel_rfl
 m17:=by kernel_rfl
 m18:=by kernel_rfl
 m19:=by kernel_rfl }
def Tryz.laysC172_ren:Go.Shelf.Ren:=⟨fun | 172=>163 | 244=>214 | 245=>215 | 247=>244 | 279=>245 | 280=>246 | 281=>247 | 282=>248 | 287=>266 | 316=>267 | 171=>161 | 205=>268 | 321=>278 | 322=>279 | 243=>211 | 246=>242 | 283=>261 | 284=>262 | 285=>263 | 286=>264 | 129=>92 | 317=>274 | 318=>275 | 319=>276 | 320=>277 | 337=>282 | 338=>283 | n=>n,fun | 9=>9 | 3=>3 | 75=>200 | 76=>201 | 4=>4 | 5=>5 | 167=>312 | 37=>195 | 0=>0 | 85=>313 | 2=>2 | 168=>315 | 53=>155 | 175=>335 | 46=>100 | 210=>338 | 127=>254 | 145=>352 | 143=>350 | 21=>21 | 171=>331 | 173=>333 | 212=>347 | 51=>153 | 20=>20 | 213=>348 | 232=>353 | 233=>354 | 80=>82 | n=>n,fun | 15=>4 | 16=>5 | 17=>6 | 18=>7 | 19=>8 | n=>n⟩
theorem Tryz.laysC172:Go.Proofs.LaysC.n172 Tryz.prog Tryz.laysC172_ren:={
 mixed:=by kernel_rfl
 f129:=Tryz.func92.trans (congrArg some (by kernel_rfl))
 f171:=Tryz.func161.trans (congrArg some (by kernel_rfl))
 f172:=Tryz.func163.trans (congrArg some (by kernel_rfl))
 f205:=Tryz.func268.trans (congrArg some (by kernel_rfl))
 f243:=Tryz.func211.trans (congrArg some (by kernel_rfl))
 f244:=Tryz.func214.trans (congrArg some (by kernel_rfl))
 f245:=Tryz.func215.trans (congrArg some (by kernel_rfl))
 f246:=Tryz.func242.trans (congrArg some (by kernel_rfl))
 f247:=Tryz.func244.trans (congrArg some (by kernel_rfl))
 f279:=Tryz.func245.trans (congrArg some (by kernel_rfl))
 f280:=Tryz.func246.trans (congrArg some (by kernel_rfl))
 f281:=Tryz.func247.trans (congrArg some (by kernel_rfl))
 f282:=Tryz.func248.trans (congrArg some (by kernel_rfl))
 f283:=Tryz.func261.trans (congrArg some (by kernel_rfl))
 f284:=Tryz.func262.trans (congrArg some (by kernel_rfl))
 f285:=Tryz.func263.trans (congrArg some (by kernel_rfl))
 f286:=Tryz.func264.trans (congrArg some (by kernel_rfl))
 f287:=Tryz.func266.trans (congrArg some (by kernel_rfl))
 f316:=Tryz.func267.trans (congrArg some (by kernel_rfl))
 f317:=Tryz.func274.trans (congrArg some (by kernel_rfl))
 f318:=Tryz.func275.trans (congrArg some (by kernel_rfl))
 f319:=Tryz.func276.trans (congrArg some (by kernel_rfl))
 f320:=Tryz.func277.trans (congrArg some (by kernel_rfl))
 f321:=Tryz.func278.trans (congrArg some (by kernel_rfl))
 f322:=Tryz.func279.trans (congrArg some (by kernel_rfl))
 f337:=Tryz.func282.trans (congrArg some (by kernel_rfl))
 f338:=Tryz.func283.trans (congrArg some (by kernel_rfl))
 t0:=Tryz.underlying0
 a0:=Tryz.isAgg0
 z0:=Tryz.sizeOf0
 v0:=Tryz.zeroValue0
 t2:=Tryz.underlying2
 a2:=Tryz.isAgg2
 z2:=Tryz.sizeOf2
 v2:=Tryz.zeroValue2
 t3:=Tryz.underlying3
 a3:=Tryz.isAgg3
 z3:=Tryz.sizeOf3
 v3:=Tryz.zeroValue3
 t4:=Tryz.underlying4
 a4:=Tryz.isAgg4
 z4:=Tryz.sizeOf4
 v4:=Tryz.zeroValue4
 t5:=Tryz.underlying5
 a5:=Tryz.isAgg5
 z5:=Tryz.sizeOf5
 v5:=Tryz.zeroValue5
 t9:=Tryz.underlying9
 a9:=Tryz.isAgg9
 z9:=Tryz.sizeOf9
 v9:=Tryz.zeroValue9
 t20:=Tryz.underlying20
 a20:=Tryz.isAgg20
 z20:=Tryz.sizeOf20
 v20:=Tryz.zeroValue20
 t21:=Tryz.underlying21
 a21:=Tryz.isAgg21
 z21:=Tryz.sizeOf21
 v21:=Tryz.zeroValue21
 t37:=Tryz.underlying195
 a37:=Tryz.isAgg195
 z37:=Tryz.sizeOf195
 v37:=Tryz.zeroValue195
 t46:=Tryz.underlying100
 a46:=Tryz.isAgg100
 z46:=Tryz.sizeOf100
 v46:=Tryz.zeroValue100
 t51:=Tryz.underlying153
 a51:=Tryz.isAgg153
 z51:=Tryz.sizeOf153
 v51:=Tryz.zeroValue153
 t53:=Tryz.underlying155
 a53:=Tryz.isAgg155
 z53:=Tryz.sizeOf155
 v53:=Tryz.zeroValue155
 t75:=Tryz.underlying200
 a75:=Tryz.isAgg200
 z75:=Tryz.sizeOf200
 v75:=Tryz.zeroValue200
 t76:=Tryz.underlying201
 a76:=Tryz.isAgg201
 z76:=Tryz.sizeOf201
 v76:=Tryz.zeroValue201
 t85:=Tryz.underlying313
 a85:=Tryz.isAgg313
 z85:=Tryz.sizeOf313
 v85:=Tryz.zeroValue313
 t127:=Tryz.underlying254
 a127:=Tryz.isAgg254
 z127:=Tryz.sizeOf254
 v127:=Tryz.zeroValue254
 t143:=Tryz.underlying350
 a143:=Tryz.isAgg350
 z143:=Tryz.sizeOf350
 v143:=Tryz.zeroValue350
 t145:=Tryz.underlying352
 a145:=Tryz.isAgg352
 z145:=Tryz.sizeOf352
 v145:=Tryz.zeroValue352
 t167:=Tryz.underlying312
 a167:=Tryz.isAgg312
 z167:=Tryz.sizeOf312
 v167:=Tryz.zeroValue312
 t168:=Tryz.underlying315
 a168:=Tryz.isAgg315
 z168:=Tryz.sizeOf315
 v168:=Tryz.zeroValue315
 t171:=Tryz.underlying331
 a171:=Tryz.isAgg331
 z171:=Tryz.sizeOf331
 v171:=Tryz.zeroValue331
 t173:=Tryz.underlying333
 a173:=Tryz.isAgg333
 z173:=Tryz.sizeOf333
 v173:=Tryz.zeroValue333
 t175:=Tryz.underlying335
 a175:=Tryz.isAgg335
 z175:=Tryz.sizeOf335
 v175:=Tryz.zeroValue335
 t210:=Tryz.underlying338
 a210:=Tryz.isAgg338
 z210:=Tryz.sizeOf338
 v210:=Tryz.zeroValue338
 t212:=Tryz.underlying347
 a212:=Tryz.isAgg347
 z212:=Tryz.sizeOf347
 v212:=Tryz.zeroValue347
 t213:=Tryz.underlying348
 a213:=Tryz.isAgg348
 z213:=Tryz.sizeOf348
 t232:=Tryz.underlying353
 a232:=Tryz.isAgg353
 z232:=Tryz.sizeOf353
 v232:=Tryz.zeroValue353
 t233:=Tryz.underlying354
 a233:=Tryz.isAgg354
 z233:=Tryz.sizeOf354
 v233:=Tryz.zeroValue354
 g15:=by kernel_rfl
 g16:=by kernel_rfl
 g17:=by kernel_rfl
 g18:=by kernel_rfl
 g19:=by kernel_rfl
 t80:=Tryz.underlying82
 a80:=Tryz.isAgg82
 z80:=Tryz.sizeOf82
 v80:=Tryz.zeroValue82
 i0:=by kernel_rfl
 i2:=by kernel_rfl
 i3:=by kernel_rfl
 i4:=by kernel_rfl
 i5:=by kernel_rfl
 i9:=by kernel_rfl
 i20:=by kernel_rfl
 i21:=by kernel_rfl
 i37:=by kernel_rfl
 i46:=by kernel_rfl
 i51:=by kernel_rfl
 i53:=by kernel_rfl
 i75:=by kernel_rfl
 i76:=by kernel_rfl
 i80:=by kernel_rfl
 i85:=by kernel_rfl
 i127:=by kernel_rfl
 i143:=by kernel_rfl
 i145:=by kernel_rfl
 i167:=by kernel_rfl
 i168:=by kernel_rfl
 i171:=by kernel_rfl
 i173:=by kernel_rfl
 i175:=by kernel_rfl
 i210:=by kernel_rfl
 i212:=by kernel_rfl
 i232:=by kernel_rfl
 i233:=by kernel_rfl
 m15:=by kernel_rfl
 m16:=by kernel_rfl
 m17:=by kernel_rfl
 m18:=by kernel_rfl
 m19:=by kernel_rfl
 c0:=by kernel_rfl
 c2:=by kernel_rfl
 c3:=by kernel_rfl
 c4:=by kernel_rfl
 c5:=by kernel_rfl
 c9:=by kernel_rfl
 c20:=by kernel_rfl
 c21:=by kernel_rfl
 c37:=by kernel_rfl
 c46:=by kernel_rfl
 c51:=by kernel_rfl
 c53:=by kernel_rfl
 c75:=by kernel_rfl
 c76:=by kernel_rfl
 c80:=by kernel_rfl
 c85:=by kernel_rfl
 c127:=by kernel_rfl
 c143:=by kernel_rfl
 c145:=by kernel_rfl
 c167:=by kernel_rfl
 c168:=by kernel_rfl
 c171:=by kernel_rfl
 c173:=by kernel_rfl
 c175:=by kernel_rfl
 c210:=by kernel_rfl
 c212:=by kernel_rfl
 c213:=by kernel_rfl
 c232:=by kernel_rfl
 c233:=by kernel_rfl }
open Go.RowKit in
theorem Tryz.strconv_Atoi_ok (s:ByteArray) (hmax:s.size≤9223372036854775806) (v:Int) (h:Lib.atoiAll s.data.toList=.ok v) (w:World) :
 Calls Tryz.prog 163 #[.string s] w fun e w'=>e=.returned (.tuple #[.int .i64 v,.nilIface])∧(w'=w∨∃ t,w'=Lib.bytesWorld w 5 t):=Any.strconv_Atoi_ok Tryz.laysC172 s hmax v h w
open Go.RowKit in
theorem Tryz.strconv_Atoi_syntax (s:ByteArray) (hlim:s.size≤281474976710656) (h:Lib.atoiAll s.data.toList=Lib.atoiAll []) (ev:Value) (w:World) (hv:w.cell? ⟨4,0,none⟩=some ev) (hev:ev=.nilIface∨∃ te pe,ev=.iface te pe) :
 Calls Tryz.prog 163 #[.string s] w fun e w'=>∃ N,e=.returned (.tuple #[.int .i64 (0),.iface 315 (.pointer (some ⟨N,0,none⟩))])∧w.heap.size≤N∧w'.heap[N]? = some (.cells #[.string ⟨#[65,116,111,105]⟩,.string s,ev] 338 (0,0))∧Below w.heap.size w w':=Any.strconv_Atoi_syntax Tryz.laysC172 s hlim h ev w hv hev
open Go.RowKit in
theorem Tryz.strconv_Atoi_range (s:ByteArray) (hlim:s.size≤281474976710656) (h:Lib.atoiAll s.data.toList=.range) (ev:Value) (w:World) (hv:w.cell? ⟨5,0,none⟩=some ev) (hev:ev=.nilIface∨∃ te pe,ev=.iface te pe) :
 Calls Tryz.prog 163 #[.string s] w fun e w'=>∃ N,e=.returned (.tuple #[.int .i64 (Lib.atoiSat s.data.toList),.iface 315 (.pointer (some ⟨N,0,none⟩))])∧w.heap.size≤N∧w'.heap[N]? = some (.cells #[.string ⟨#[65,116,111,105]⟩,.string s,ev] 338 (0,0))∧Below w.heap.size w w':=Any.strconv_Atoi_range Tryz.laysC172 s hlim h ev w hv hev
def Tryz.lays145_ren:Go.Shelf.Ren:=⟨fun | 145=>108 | 220=>166 | 219=>218 | 217=>167 | 225=>250 | 224=>251 | 267=>252 | 266=>219 | 314=>272 | n=>n,fun | 9=>9 | 4=>4 | 59=>183 | 3=>3 | 5=>5 | 46=>100 | 146=>327 | 51=>153 | n=>n,fun | 1=>0 | n=>n⟩
theorem Tryz.lays145:Go.Proofs.Lays.n145 Tryz.prog Tryz.lays145_ren:={
 mixed:=by kernel_rfl
 f145:=Tryz.func108.trans (congrArg some (by kernel_rfl))
 f217:=Tryz.func167.trans (congrArg some (by kernel_rfl))
 f219:=Tryz.func218.trans (congrArg some (by kernel_rfl))
 f220:=Tryz.func166.trans (congrArg some (by kernel_rfl))
 f224:=Tryz.func251.trans (congrArg some (by kernel_rfl))
 f225:=Tryz.func250.trans (congrArg some (by kernel_rfl))
 f266:=Tryz.func219.trans (congrArg some (by kernel_rfl))
 f267:=Tryz.func252.trans (congrArg some (by kernel_rfl))
 f314:=Tryz.func272.trans (congrArg some (by kernel_rfl))
 t3:=Tryz.underlying3
 a3:=Tryz.isAgg3
 z3:=Tryz.sizeOf3
 v3:=Tryz.zeroValue3
 t4:=Tryz.underlying4
 a4:=Tryz.isAgg4
 z4:=Tryz.sizeOf4
 v4:=Tryz.zeroValue4
 t5:=Tryz.underlying5
 a5:=Tryz.isAgg5
 z5:=Tryz.sizeOf5
 v5:=Tryz.zeroValue5
 t9:=Tryz.underlying9
 a9:=Tryz.isAgg9
 z9:=Tryz.sizeOf9
 v9:=Tryz.zeroValue9
 t46:=Tryz.underlying100
 a46:=Tryz.isAgg100
 z46:=Tryz.sizeOf100
 v46:=Tryz.zeroValue100
 t51:=Tryz.underlying153
 a51:=Tryz.isAgg153
 z51:=Tryz.sizeOf153
 v51:=Tryz.zeroValue153
 t59:=Tryz.underlying183
 a59:=Tryz.isAgg183
 z59:=Tryz.sizeOf183
 v59:=Tryz.zeroValue183
 t146:=Tryz.underlying327
 a146:=Tryz.isAgg327
 z146:=Tryz.sizeOf327
 v146:=Tryz.zeroValue327
 g1:=by kernel_rfl }
open Go.RowKit Go.Lib in
theorem Tryz.strings_Cut (s sep:ByteArray) (m:Int) (w:World) (hs:s.size<4294967281) (hm:w.cell? ⟨0,0,none⟩=some (.int .i64 m)) :
 Calls Tryz.prog 108 #[.string s,.string sep] w fun e w'=>e=.returned (.tuple #[.string ⟨(Lib.cut s.data.toList sep.data.toList).1.toArray⟩,.string ⟨(Lib.cut s.data.toList sep.data.toList).2.1.toArray⟩,.bool (Lib.cut s.data.toList sep.data.toList).2.2])∧∃ n,w'=w.drewN n:=Any.strings_Cut Tryz.lays145 s sep m w hs hm
def Tryz.lays149_ren:Go.Shelf.Ren:=⟨fun | 149=>113 | 222=>168 | n=>n,fun | 9=>9 | 5=>5 | 3=>3 | 4=>4 | n=>n,fun | n=>n⟩
theorem Tryz.lays149:Go.Proofs.Lays.n149 Tryz.prog Tryz.lays149_ren:={
 mixed:=by kernel_rfl
 f149:=Tryz.func113.trans (congrArg some (by kernel_rfl))
 f222:=Tryz.func168.trans (congrArg some (by kernel_rfl))
 t3:=Tryz.underlying3
 a3:=Tryz.isAgg3
 z3:=Tryz.sizeOf3
 v3:=Tryz.zeroValue3
 t4:=Tryz.underlying4
 a4:=Tryz.isAgg4
 z4:=Tryz.sizeOf4
 v4:=Tryz.zeroValue4
 t5:=Tryz.underlying5
 a5:=Tryz.isAgg5
 z5:=Tryz.sizeOf5
 v5:=Tryz.zeroValue5
 t9:=Tryz.underlying9
 a9:=Tryz.isAgg9
 z9:=Tryz.sizeOf9
 v9:=Tryz.zeroValue9 }
open Go.RowKit Go.Lib in
theorem Tryz.strings_LastIndexByte (s:ByteArray) (c:Int) (hs:s.size<4611686018427387904) (w:World) :
 Calls Tryz.prog 113 #[.string s,.int .u8 c] w fun e w'=>e=.returned (.int .i64 (Lib.lastIndexByte s c))∧w'=w:=Any.strings_LastIndexByte Tryz.lays149 s c hs w
def Tryz.lays99_ren:Go.Shelf.Ren:=⟨fun | 99=>222 | 206=>220 | n=>n,fun | 9=>9 | 4=>4 | 3=>3 | n=>n,fun | n=>n⟩
theorem Tryz.lays99:Go.Proofs.Lays.n99 Tryz.prog Tryz.lays99_ren:={
 mixed:=by kernel_rfl
 f99:=Tryz.func222.trans (congrArg some (by kernel_rfl))
 f206:=Tryz.func220.trans (congrArg some (by kernel_rfl))
 t3:=Tryz.underlying3
 a3:=Tryz.isAgg3
 z3:=Tryz.sizeOf3
 v3:=Tryz.zeroValue3
 t4:=Tryz.underlying4
 a4:=Tryz.isAgg4
 z4:=Tryz.sizeOf4
 v4:=Tryz.zeroValue4
 t9:=Tryz.underlying9
 a9:=Tryz.isAgg9
 z9:=Tryz.sizeOf9
 v9:=Tryz.zeroValue9 }
open Go.RowKit Go.Lib in
theorem Tryz.strings_HasPrefix (s p:ByteArray) (w:World) :
 Calls Tryz.prog 222 #[.string s,.string p] w fun e w'=>e=.returned (.bool (Lib.hasPrefix s.data.toList p.data.toList))∧w'=w:=Any.strings_HasPrefix Tryz.lays99 s p w
def Tryz.lays101_ren:Go.Shelf.Ren:=⟨fun | 101=>114 | 208=>169 | 206=>220 | n=>n,fun | 9=>9 | 4=>4 | 3=>3 | n=>n,fun | n=>n⟩
theorem Tryz.lays101:Go.Proofs.Lays.n101 Tryz.prog Tryz.lays101_ren:={
 mixed:=by kernel_rfl
 f101:=Tryz.func114.trans (congrArg some (by kernel_rfl))
 f206:=Tryz.func220.trans (congrArg some (by kernel_rfl))
 f208:=Tryz.func169.trans (congrArg some (by kernel_rfl))
 t3:=Tryz.underlying3
 a3:=Tryz.isAgg3
 z3:=Tryz.sizeOf3
 v3:=Tryz.zeroValue3
 t4:=Tryz.underlying4
 a4:=Tryz.isAgg4
 z4:=Tryz.sizeOf4
 v4:=Tryz.zeroValue4
 t9:=Tryz.underlying9
 a9:=Tryz.isAgg9
 z9:=Tryz.sizeOf9
 v9:=Tryz.zeroValue9 }
open Go.RowKit Go.Lib in
theorem Tryz.strings_TrimPrefix (s p:ByteArray) (w:World) :
 Calls Tryz.prog 114 #[.string s,.string p] w fun e w'=>e=.returned (.string ⟨(Lib.trimPrefix s.data.toList p.data.toList).toArray⟩)∧w'=w:=Any.strings_TrimPrefix Tryz.lays101 s p w
def Tryz.lays146_ren:Go.Shelf.Ren:=⟨fun | 146=>216 | 221=>249 | 268=>269 | 138=>270 | 143=>271 | 195=>280 | 197=>178 | 218=>281 | 219=>218 | 260=>225 | 217=>167 | 225=>250 | 224=>251 | 267=>252 | 266=>219 | 314=>272 | n=>n,fun | 9=>9 | 31=>23 | 3=>3 | 4=>4 | 0=>0 | 105=>255 | 21=>21 | 5=>5 | 46=>100 | 119=>319 | 139=>322 | 138=>321 | 146=>327 | 51=>153 | n=>n,fun | 1=>0 | 3=>2 | 4=>3 | n=>n⟩
theorem Tryz.lays146:Go.Proofs.Lays.n146 Tryz.prog Tryz.lays146_ren:={
 mixed:=by kernel_rfl
 f138:=Tryz.func270.trans (congrArg some (by kernel_rfl))
 f143:=Tryz.func271.trans (congrArg some (by kernel_rfl))
 f146:=Tryz.func216.trans (congrArg some (by kernel_rfl))
 f195:=Tryz.func280.trans (congrArg some (by kernel_rfl))
 f197:=Tryz.func178.trans (congrArg some (by kernel_rfl))
 f217:=Tryz.func167.trans (congrArg some (by kernel_rfl))
 f218:=Tryz.func281.trans (congrArg some (by kernel_rfl))
 f219:=Tryz.func218.trans (congrArg some (by kernel_rfl))
 f221:=Tryz.func249.trans (congrArg some (by kernel_rfl))
 f224:=Tryz.func251.trans (congrArg some (by kernel_rfl))
 f225:=Tryz.func250.trans (congrArg some (by kernel_rfl))
 f260:=Tryz.func225.trans (congrArg some (by kernel_rfl))
 f266:=Tryz.func219.trans (congrArg some (by kernel_rfl))
 f267:=Tryz.func252.trans (congrArg some (by kernel_rfl))
 f268:=Tryz.func269.trans (congrArg some (by kernel_rfl))
 f314:=Tryz.func272.trans (congrArg some (by kernel_rfl))
 t0:=Tryz.underlying0
 a0:=Tryz.isAgg0
 z0:=Tryz.sizeOf0
 v0:=Tryz.zeroValue0
 t3:=Tryz.underlying3
 a3:=Tryz.isAgg3
 z3:=Tryz.sizeOf3
 v3:=Tryz.zeroValue3
 t4:=Tryz.underlying4
 a4:=Tryz.isAgg4
 z4:=Tryz.sizeOf4
 v4:=Tryz.zeroValue4
 t5:=Tryz.underlying5
 a5:=Tryz.isAgg5
 z5:=Tryz.sizeOf5
 v5:=Tryz.zeroValue5
 t9:=Tryz.underlying9
 a9:=Tryz.isAgg9
 z9:=Tryz.sizeOf9
 v9:=Tryz.zeroValue9
 t21:=Tryz.underlying21
 a21:=Tryz.isAgg21
 z21:=Tryz.sizeOf21
 v21:=Tryz.zeroValue21
 t31:=Tryz.underlying23
 a31:=Tryz.isAgg23
 z31:=Tryz.sizeOf23
 v31:=Tryz.zeroValue23
 t46:=Tryz.underlying100
 a46:=Tryz.isAgg100
 z46:=Tryz.sizeOf100
 v46:=Tryz.zeroValue100
 t51:=Tryz.underlying153
 a51:=Tryz.isAgg153
 z51:=Tryz.sizeOf153
 v51:=Tryz.zeroValue153
 t105:=Tryz.underlying255
 a105:=Tryz.isAgg255
 z105:=Tryz.sizeOf255
 v105:=Tryz.zeroValue255
 t119:=Tryz.underlying319
 a119:=Tryz.isAgg319
 z119:=Tryz.sizeOf319
 t138:=Tryz.underlying321
 a138:=Tryz.isAgg321
 z138:=Tryz.sizeOf321
 v138:=Tryz.zeroValue321
 t139:=Tryz.underlying322
 a139:=Tryz.isAgg322
 z139:=Tryz.sizeOf322
 v139:=Tryz.zeroValue322
 t146:=Tryz.underlying327
 a146:=Tryz.isAgg327
 z146:=Tryz.sizeOf327
 v146:=Tryz.zeroValue327
 g1:=by kernel_rfl
 g3:=by kernel_rfl
 g4:=by kernel_rfl }
open Go.RowKit Go.Lib in
theorem Tryz.strings_Split (s sep:ByteArray) (m:Int) (w:World) (hs:s.size<4294967281) (hm:w.cell? ⟨0,0,none⟩=some (.int .i64 m)) (h1:1≤sep.size) :
 Calls Tryz.prog 216 #[.string s,.string sep] w fun e w' =>
  e=.returned (.slice (some ⟨w.heap.size,0,none⟩) (Lib.countB s sep+1) (Lib.countB s sep+1))∧w'=w.alloc (.cells ((Lib.splitB sep 0 (Lib.countB s sep) s).map Value.string).toArray 9):=Any.strings_Split Tryz.lays146 (by kernel_rfl) s sep m w hs hm h1
def Tryz.lays105_ren:Go.Shelf.Ren:=⟨fun | 105=>210 | 212=>240 | 99=>222 | 165=>119 | 166=>120 | 170=>241 | 169=>122 | 263=>259 | 264=>260 | 206=>220 | 240=>176 | 241=>177 | 276=>223 | 277=>224 | n=>n,fun | 9=>9 | 3=>3 | 4=>4 | 20=>20 | 0=>0 | 46=>100 | 109=>309 | 5=>5 | 72=>197 | 76=>201 | 51=>153 | 146=>327 | 53=>155 | 148=>329 | 70=>194 | 37=>195 | 75=>200 | 127=>254 | 164=>292 | 80=>82 | n=>n,fun | n=>n⟩
theorem Tryz.lays105:Go.Proofs.Lays.n105 Tryz.prog Tryz.lays105_ren:={
 mixed:=by kernel_rfl
 f99:=Tryz.func222.trans (congrArg some (by kernel_rfl))
 f105:=Tryz.func210.trans (congrArg some (by kernel_rfl))
 f165:=Tryz.func119.trans (congrArg some (by kernel_rfl))
 f166:=Tryz.func120.trans (congrArg some (by kernel_rfl))
 f169:=Tryz.func122.trans (congrArg some (by kernel_rfl))
 f170:=Tryz.func241.trans (congrArg some (by kernel_rfl))
 f206:=Tryz.func220.trans (congrArg some (by kernel_rfl))
 f212:=Tryz.func240.trans (congrArg some (by kernel_rfl))
 f240:=Tryz.func176.trans (congrArg some (by kernel_rfl))
 f241:=Tryz.func177.trans (congrArg some (by kernel_rfl))
 f263:=Tryz.func259.trans (congrArg some (by kernel_rfl))
 f264:=Tryz.func260.trans (congrArg some (by kernel_rfl))
 f276:=Tryz.func223.trans (congrArg some (by kernel_rfl))
 f277:=Tryz.func224.trans (congrArg some (by kernel_rfl))
 t0:=Tryz.underlying0
 a0:=Tryz.isAgg0
 z0:=Tryz.sizeOf0
 v0:=Tryz.zeroValue0
 t3:=Tryz.underlying3
 a3:=Tryz.isAgg3
 z3:=Tryz.sizeOf3
 v3:=Tryz.zeroValue3
 t4:=Tryz.underlying4
 a4:=Tryz.isAgg4
 z4:=Tryz.sizeOf4
 v4:=Tryz.zeroValue4
 t5:=Tryz.underlying5
 a5:=Tryz.isAgg5
 z5:=Tryz.sizeOf5
 v5:=Tryz.zeroValue5
 t9:=Tryz.underlying9
 a9:=Tryz.isAgg9
 z9:=Tryz.sizeOf9
 v9:=Tryz.zeroValue9
 t20:=Tryz.underlying20
 a20:=Tryz.isAgg20
 z20:=Tryz.sizeOf20
 v20:=Tryz.zeroValue20
 t37:=Tryz.underlying195
 a37:=Tryz.isAgg195
 z37:=Tryz.sizeOf195
 v37:=Tryz.zeroValue195
 t46:=Tryz.underlying100
 a46:=Tryz.isAgg100
 z46:=Tryz.sizeOf100
 v46:=Tryz.zeroValue100
 t51:=Tryz.underlying153
 a51:=Tryz.isAgg153
 z51:=Tryz.sizeOf153
 v51:=Tryz.zeroValue153
 t53:=Tryz.underlying155
 a53:=Tryz.isAgg155
 z53:=Tryz.sizeOf155
 v53:=Tryz.zeroValue155
 t70:=Tryz.underlying194
 a70:=Tryz.isAgg194
 z70:=Tryz.sizeOf194
 v70:=Tryz.zeroValue194
 t72:=Tryz.underlying197
 a72:=Tryz.isAgg197
 z72:=Tryz.sizeOf197
 v72:=Tryz.zeroValue197
 t75:=Tryz.underlying200
 a75:=Tryz.isAgg200
 z75:=Tryz.sizeOf200
 v75:=Tryz.zeroValue200
 t76:=Tryz.underlying201
 a76:=Tryz.isAgg201
 z76:=Tryz.sizeOf201
 v76:=Tryz.zeroValue201
 t109:=Tryz.underlying309
 a109:=Tryz.isAgg309
 z109:=Tryz.sizeOf309
 v109:=Tryz.zeroValue309
 t127:=Tryz.underlying254
 a127:=Tryz.isAgg254
 z127:=Tryz.sizeOf254
 v127:=Tryz.zeroValue254
 t146:=Tryz.underlying327
 a146:=Tryz.isAgg327
 z146:=Tryz.sizeOf327
 v146:=Tryz.zeroValue327
 t148:=Tryz.underlying329
 a148:=Tryz.isAgg329
 z148:=Tryz.sizeOf329
 v148:=Tryz.zeroValue329
 t164:=Tryz.underlying292
 a164:=Tryz.isAgg292
 z164:=Tryz.sizeOf292
 v164:=Tryz.zeroValue292 }
theorem Tryz.Builder_Extra_105:Builder.Extra Tryz.prog Tryz.lays105_ren:={
 sizeBuilder:=by kernel_rfl
 liesBuilder:=by kernel_rfl
 t5:=Tryz.underlying5
 a5:=Tryz.isAgg5
 z5:=Tryz.sizeOf5
 v5:=Tryz.zeroValue5
 infoByte:=by kernel_rfl
 cellsByte:=by kernel_rfl
 sizeByte:=by kernel_rfl
 neB5:=by decide }
open Go.RowKit Go.Lib in
theorem Tryz.strings_Repeat (s:ByteArray) (c:Nat) (w:World) (hc:c≤9223372036854775807) (hlen:s.size*c≤140737488355328) :
 Calls Tryz.prog 210 #[.string s,.int .i64 c] w fun e w'=>e=.returned (.string ⟨(Lib.repeatL s.data.toList c).toArray⟩)∧Below w.heap.size w w':=Any.strings_Repeat Tryz.lays105 Tryz.Builder_Extra_105 s c w hc hlen
def Tryz.lays229_ren:Go.Shelf.Ren:=⟨fun | 229=>173 | n=>n,fun | 9=>9 | 40=>253 | 31=>23 | 152=>289 | 3=>3 | 0=>0 | 4=>4 | 21=>21 | 154=>291 | n=>n,fun | n=>n⟩
theorem Tryz.lays229:Go.Proofs.Lays.n229 Tryz.prog Tryz.lays229_ren:={
 mixed:=by kernel_rfl
 f229:=Tryz.func173.trans (congrArg some (by kernel_rfl))
 t0:=Tryz.underlying0
 a0:=Tryz.isAgg0
 z0:=Tryz.sizeOf0
 v0:=Tryz.zeroValue0
 t3:=Tryz.underlying3
 a3:=Tryz.isAgg3
 z3:=Tryz.sizeOf3
 v3:=Tryz.zeroValue3
 t4:=Tryz.underlying4
 a4:=Tryz.isAgg4
 z4:=Tryz.sizeOf4
 v4:=Tryz.zeroValue4
 t9:=Tryz.underlying9
 a9:=Tryz.isAgg9
 z9:=Tryz.sizeOf9
 v9:=Tryz.zeroValue9
 t21:=Tryz.underlying21
 a21:=Tryz.isAgg21
 z21:=Tryz.sizeOf21
 v21:=Tryz.zeroValue21
 t31:=Tryz.underlying23
 a31:=Tryz.isAgg23
 z31:=Tryz.sizeOf23
 v31:=Tryz.zeroValue23
 t40:=Tryz.underlying253
 a40:=Tryz.isAgg253
 z40:=Tryz.sizeOf253
 v40:=Tryz.zeroValue253
 t152:=Tryz.underlying289
 a152:=Tryz.isAgg289
 z152:=Tryz.sizeOf289
 v152:=Tryz.zeroValue289
 t154:=Tryz.underlying291
 a154:=Tryz.isAgg291
 z154:=Tryz.sizeOf291
 v154:=Tryz.zeroValue291 }
open Go.RowKit Go.Lib in
theorem Tryz.strings_ToLower_any (s:ByteArray) (w:World) (hs:s.size<35184372088832) (hV:CaseVar 1 caseA w) (hT:Lib.Utf8Tabs 2 3 w) :
 Calls Tryz.prog 66 #[.string s] w fun e w'=>e=.returned (.string ⟨(Lib.toLowerD s.data.toList).toArray⟩)∧Below w.heap.size w w':=Any.strings_ToLower_any Tryz.lays159 Tryz.Builder_Extra_159 s w hs hV hT
end Go.Proofs
namespace Go.Ev.Pv
open Go.Proofs Go.RowKit Go.Lib
def HoldsTab (w:World) (g:Nat) (k:IntKind) (zs:List Int):Prop:=∃ el fz,w.heap[g]? = some (.cells (zs.map fun z=>Value.int k z).toArray el fz)
theorem uch9_ {P:Program} {w:World} {n:String} {g:Nat} {k:IntKind} {zs:List Int} (hg:P.globalNamed n=some g) (h:HoldsTab w g k zs):Lib.TabIs P w n k zs:=by
 obtain ⟨el,fz,h⟩:=h
 unfold Lib.TabIs World.var?
 rw [hg]
 simp only [Option.bind_some,h]
theorem ucc9_ {w:World} {b:Nat} {o:Go.Obj} (h:w.heap[b]? = some o):b<w.heap.size:=(Array.getElem?_eq_some_iff.1 h).1
def Facts (w:World):Prop :=
 HoldsTab w 6 .u64 Lib.pow10Tab∧CaseVar 1 caseA w∧Lib.Utf8Tabs 2 3 w∧(∃ m,w.cell? ⟨0,0,none⟩=some (.int .i64 m)) ∧
 (∃ ev,w.cell? ⟨4,0,none⟩=some ev∧(ev=.nilIface∨∃ te pe,ev=.iface te pe))∧(∃ ev,w.cell? ⟨5,0,none⟩=some ev∧(ev=.nilIface∨∃ te pe,ev=.iface te pe))
theorem ub6z_ {w:World} {b o:Nat} {v:Value} (h:w.cell? ⟨b,o,none⟩=some v):b<w.heap.size:=by
 apply Classical.byContradiction
 intro hn
 simp only [World.cell?,Array.getElem?_eq_none (Nat.le_of_not_lt hn)] at h
 cases h
theorem Facts.below {w w':World} (h:Facts w) (hb:Below w.heap.size w w'):Facts w':=by
 obtain ⟨h1,h2,h3,⟨m,h4⟩,⟨e1,h5,h5'⟩,e2,h6,h6'⟩:=h
 exact ⟨(let ⟨el,fz,h1⟩:=h1; ⟨el,fz,(hb.block 6 (ucc9_ h1)).trans h1⟩),CaseVar_below h2 hb,Utf8Tabs_below h3 hb,⟨m,(hb.cell (ub6z_ h4)).trans h4⟩,⟨e1,(hb.cell (ub6z_ h5)).trans h5,h5'⟩,e2,(hb.cell (ub6z_ h6)).trans h6,h6'⟩
theorem Facts.later {w w':World} (h:Facts w) (hb:∀ b,b<w.heap.size→w'.heap[b]? = w.heap[b]?):Facts w':=by
 have hs:w.heap.size≤w'.heap.size:=by
  apply Classical.byContradiction
  intro hn
  have h1:=hb w'.heap.size (by omega)
  rw [Array.getElem?_eq_none (Nat.le_refl _),Array.getElem?_eq_getElem (by omega)] at h1
  cases h1
 have hB:Below w.heap.size w { w' with os:=w.os,tape:=w.tape,output:=w.output }:=⟨rfl,rfl,rfl,hs,hb⟩
 have h2:=h.below hB
 exact h2
noncomputable instance:Pins:=⟨Tryz.prog,fun w I=>∃ w0,Facts w0∧∀ b,b<w0.heap.size→I.obj b∧w.heap[b]? = w0.heap[b]?,
 fun ⟨w0,h1,h2⟩ e=>⟨w0,h1,fun b hb=>⟨(e.obj b (h2 b hb).1).1,(e.obj b (h2 b hb).1).2.trans (h2 b hb).2⟩⟩⟩
theorem facts {w:World} {I:Im} (h:Mem w I):Facts w:=let ⟨_,h1,h2⟩:=h.2.2; h1.later fun b hb=>(h2 b hb).2
theorem uui_ {f:Nat} {fn:Func} (h:Tryz.prog.funcs[f]? = some fn) (hn:(fn.name == "runtime.NumGoroutine")=false) (hb:fn.body=some (u4_ fn)):um_ Tryz.prog f:=⟨fn,_,h,hn,hb⟩
def ueb_:FSpec:=⟨[.val (.int .i64)],[.val .str],strconv_Itoa,true⟩
theorem uep_:um_ Go.Proofs.Tryz.prog 161∧FunOK Go.Proofs.Tryz.prog 161 ueb_:=by
 refine ⟨uui_ Tryz.func161 (by kernel_rfl) (by kernel_rfl),FunOK.flat1 (t:=.str) rfl rfl (fun args=>by cases args <;> rfl) fun w I v args bs hm hsh r hr=>?_⟩
 obtain ⟨rfl,x,rfl,hx⟩:=in1 hsh
 obtain ⟨rfl,h0,h1⟩:=ucfi_ hx
 cases hr
 refine ⟨rfl,.string ⟨(itoaS v).toArray⟩,fun w' I'=>out1 (ubks_ (Nat.le_trans (ub90_ v) (by decide))),?_⟩
 rw [uch8_ h0 h1]
 refine (Any.strconv_Itoa Tryz.laysM171 v h0 h1 w (uch9_ (g:=6) (by kernel_rfl) (facts hm).1)).mono fun e w' ⟨he,k,os,hw⟩=>⟨he,?_,fun _=>?_⟩
 · rw [hw]; exact Lib.below_grow _ w (Nat.le_refl _) k os
 · rw [hw]; exact Nat.le_add_right _ _
theorem ub0p_ {w w':World} {D:Prop} (h:w'=w):Below w.heap.size w w'∧(D→w.drawn≤w'.drawn):=by
 subst h; exact ⟨Below.refl _ _,fun _=>Nat.le_refl _⟩
theorem ucgv_ {w w':World} {D:Prop} (h:∃ n,w'=w.drewN n):Below w.heap.size w w'∧(D→w.drawn≤w'.drawn):=by
 obtain ⟨n,rfl⟩:=h; exact ⟨⟨rfl,rfl,rfl,Nat.le_refl _,fun _ _=>rfl⟩,fun _=>Nat.le_add_right _ _⟩
theorem ucda_ {a:Str} {n:Nat} (h:a.length<n):(⟨a.toArray⟩:ByteArray).size<n:=by rw [u0q_]; exact h
theorem ucko_ {a:Str} {k n:Nat} (h:a.length*k≤n):(⟨a.toArray⟩:ByteArray).size*k≤n:=by rw [u0q_]; exact h
theorem ucjk_ (s p:Str):(Lib.cut s p).1.length≤s.length∧(Lib.cut s p).2.1.length≤s.length:=by
 unfold Lib.cut
 split
 · simp only [List.length_take,List.length_drop]; omega
 · simp
theorem ucdb_ {s:Str} {k:Nat} (h:s.length*k≤140737488355328):(Lib.repeatL s k).length≤281474976710656:=by rw [Lib.repeatL_length,Nat.mul_comm]; omega
theorem ucdc_ {n:Int} (h1:-9223372036854775808≤n) (h2:n≤9223372036854775807):uq0_ .i64 n:=⟨h1,h2⟩
theorem uckp_ {n:Int} (h:uq0_ .i64 n):n≤9223372036854775807:=h.2
theorem ub8l_ (c:UInt8):∀ l:List UInt8,Lib.indexByte l c≤l.length:=by
 intro l
 induction l with
 | nil=>simp [Lib.indexByte]
 | cons b l ih =>
   simp only [Lib.indexByte,List.length_cons]
   repeat' split
   all_goals omega
def ugy_:FSpec:=⟨[.val .str,.val (.int .u8)],[.val (.int .i64)],strings_IndexByte,true⟩
theorem ujb_:um_ Go.Proofs.Tryz.prog 111∧FunOK Go.Proofs.Tryz.prog 111 ugy_:=by
 refine ⟨uui_ Tryz.func111 (by kernel_rfl) (by kernel_rfl),FunOK.flat1 (t:=.int .i64) rfl rfl (fun args=>by rcases args with _ | ⟨_,_ | ⟨_,_⟩⟩ <;> rfl) fun w I v args bs hm hsh r hr=>?_⟩
 obtain ⟨rfl,x,y,rfl,hx,hy⟩:=in2 hsh
 obtain ⟨rfl,h0⟩:=ubkr_ hx
 obtain ⟨rfl,h1⟩:=ucfi_ hy
 obtain ⟨h2,hr⟩:=ubbe_ hr
 cases hr
 refine ⟨rfl,_,fun w' I'=>out1 (ub93_ (k:=.i64) (n:=Lib.indexByte v.1 v.2.toNat.toUInt8) ?_),?_⟩
 · have k1:=ub8l_ v.2.toNat.toUInt8 v.1
   have k2:=Lib.indexByte_ge v.1 v.2.toNat.toUInt8
   exact ucdc_ (by omega) (by omega)
 · exact (Tryz.strings_IndexByte ⟨v.1.toArray⟩ v.2 w).mono fun e w' ⟨he,hw⟩=>⟨he,ub0p_ hw⟩
theorem ub43_ (s:ByteArray) (c:Int):∀ k,-1≤Lib.lastIdx s c k∧Lib.lastIdx s c k≤k:=by
 intro k
 induction k with
 | zero=>simp [Lib.lastIdx]
 | succ k ih =>
   simp only [Lib.lastIdx]
   split <;> omega
def uxo_:FSpec:=⟨[.val .str,.val (.int .u8)],[.val (.int .i64)],strings_LastIndexByte,true⟩
theorem ubfj_:um_ Go.Proofs.Tryz.prog 113∧FunOK Go.Proofs.Tryz.prog 113 uxo_:=by
 refine ⟨uui_ Tryz.func113 (by kernel_rfl) (by kernel_rfl),FunOK.flat1 (t:=.int .i64) rfl rfl (fun args=>by rcases args with _ | ⟨_,_ | ⟨_,_⟩⟩ <;> rfl) fun w I v args bs hm hsh r hr=>?_⟩
 obtain ⟨rfl,x,y,rfl,hx,hy⟩:=in2 hsh
 obtain ⟨rfl,h0⟩:=ubkr_ hx
 obtain ⟨rfl,h1⟩:=ucfi_ hy
 obtain ⟨h2,hr⟩:=ubbe_ hr
 cases hr
 have hsz:(⟨v.1.toArray⟩:ByteArray).size=v.1.length:=u0q_ v.1
 refine ⟨rfl,_,fun w' I'=>out1 (ub93_ (k:=.i64) (n:=Lib.lastIndexByte ⟨v.1.toArray⟩ v.2) ?_),?_⟩
 · have k1:=ub43_ ⟨v.1.toArray⟩ v.2 (⟨v.1.toArray⟩:ByteArray).size
   have k2:((⟨v.1.toArray⟩:ByteArray).size:Int)=(v.1.length:Nat):=by rw [hsz]
   unfold Lib.lastIndexByte
   exact ucdc_ (by omega) (by omega)
 · exact (Tryz.strings_LastIndexByte ⟨v.1.toArray⟩ v.2 (ucda_ h2) w).mono fun e w' ⟨he,hw⟩=>⟨he,ub0p_ hw⟩
def u61_:FSpec:=⟨[.val .str,.val .str],[.val .bool],strings_HasPrefix,true⟩
theorem ubqx_:um_ Go.Proofs.Tryz.prog 222∧FunOK Go.Proofs.Tryz.prog 222 u61_:=by
 refine ⟨uui_ Tryz.func222 (by kernel_rfl) (by kernel_rfl),FunOK.flat1 (t:=.bool) rfl rfl (fun args=>by rcases args with _ | ⟨_,_ | ⟨_,_⟩⟩ <;> rfl) fun w I v args bs hm hsh r hr=>?_⟩
 obtain ⟨rfl,x,y,rfl,hx,hy⟩:=in2 hsh
 obtain ⟨rfl,h0⟩:=ubkr_ hx
 obtain ⟨rfl,h1⟩:=ubkr_ hy
 cases hr
 exact ⟨rfl,_,fun w' I'=>out1 ub8k_,(Tryz.strings_HasPrefix ⟨v.1.toArray⟩ ⟨v.2.toArray⟩ w).mono fun e w' ⟨he,hw⟩=>⟨he,ub0p_ hw⟩⟩
theorem trimPrefix_len (s p:Str):(Lib.trimPrefix s p).length≤s.length:=by
 unfold Lib.trimPrefix
 split
 · simp
 · exact Nat.le_refl _
def u4u_:FSpec:=⟨[.val .str,.val .str],[.val .str],strings_TrimPrefix,true⟩
theorem ubnp_:um_ Go.Proofs.Tryz.prog 114∧FunOK Go.Proofs.Tryz.prog 114 u4u_:=by
 refine ⟨uui_ Tryz.func114 (by kernel_rfl) (by kernel_rfl),FunOK.flat1 (t:=.str) rfl rfl (fun args=>by rcases args with _ | ⟨_,_ | ⟨_,_⟩⟩ <;> rfl) fun w I v args bs hm hsh r hr=>?_⟩
 obtain ⟨rfl,x,y,rfl,hx,hy⟩:=in2 hsh
 obtain ⟨rfl,h0⟩:=ubkr_ hx
 obtain ⟨rfl,h1⟩:=ubkr_ hy
 cases hr
 exact ⟨rfl,_,fun w' I'=>out1 (ubks_ (Nat.le_trans (trimPrefix_len v.1 v.2) h0)),(Tryz.strings_TrimPrefix ⟨v.1.toArray⟩ ⟨v.2.toArray⟩ w).mono fun e w' ⟨he,hw⟩=>⟨he,ub0p_ hw⟩⟩
def u62_:FSpec:=⟨[.val .str,.val .str],[.val .str,.val .bool],strings_CutPrefix,true⟩
theorem ubqy_:um_ Go.Proofs.Tryz.prog 117∧FunOK Go.Proofs.Tryz.prog 117 u62_:=by
 refine ⟨uui_ Tryz.func117 (by kernel_rfl) (by kernel_rfl),FunOK.given fun w I v args bs hm hsh r hr=>?_⟩
 obtain ⟨rfl,x,y,rfl,hx,hy⟩:=in2 hsh
 obtain ⟨rfl,h0⟩:=ubkr_ hx
 obtain ⟨rfl,h1⟩:=ubkr_ hy
 cases hr
 refine ⟨rfl,(Tryz.strings_CutPrefix ⟨v.1.toArray⟩ ⟨v.2.toArray⟩ w).mono fun e w' ⟨he,hw⟩=>⟨_,[_,_],noX,he,rfl,rfl,(ub0p_ (D:=True) hw).1,fun _=>(ub0p_ hw).2 trivial,ub8j_,?_⟩⟩
 exact out2 (a:=.str) (b:=.bool) (x:=(Lib.trimPrefix v.1 v.2,Lib.hasPrefix v.1 v.2)) (ubks_ (Nat.le_trans (trimPrefix_len v.1 v.2) h0)) ub8k_
def ubfk_:FSpec:=⟨[.val .str,.val .str],[.val .str,.val .str,.val .bool],strings_Cut,true⟩
theorem ubth_:um_ Go.Proofs.Tryz.prog 108∧FunOK Go.Proofs.Tryz.prog 108 ubfk_:=by
 refine ⟨uui_ Tryz.func108 (by kernel_rfl) (by kernel_rfl),FunOK.given fun w I v args bs hm hsh r hr=>?_⟩
 obtain ⟨rfl,x,y,rfl,hx,hy⟩:=in2 hsh
 obtain ⟨rfl,h0⟩:=ubkr_ hx
 obtain ⟨rfl,h1⟩:=ubkr_ hy
 obtain ⟨h2,hr⟩:=ubbe_ hr
 cases hr
 obtain ⟨m,hmm⟩:=(facts hm).2.2.2.1
 refine ⟨rfl,(Tryz.strings_Cut ⟨v.1.toArray⟩ ⟨v.2.toArray⟩ m w (ucda_ h2) hmm).mono fun e w' ⟨he,hw⟩=>⟨_,[_,_,_],noX,he,rfl,rfl,(ucgv_ (D:=True) hw).1,fun _=>(ucgv_ hw).2 trivial,ub8j_,?_⟩⟩
 have hl:=ucjk_ v.1 v.2
 exact out3 (a:=.str) (b:=.str) (c:=.bool) (x:=Lib.cut v.1 v.2) (ubks_ (Nat.le_trans hl.1 h0)) (ubks_ (Nat.le_trans hl.2 h0)) ub8k_
def ubht_:FSpec:=⟨[.val .str,.val (.int .i64)],[.val .str],strings_Repeat,false⟩
theorem ubx7_:um_ Go.Proofs.Tryz.prog 210∧FunOK Go.Proofs.Tryz.prog 210 ubht_:=by
 refine ⟨uui_ Tryz.func210 (by kernel_rfl) (by kernel_rfl),FunOK.flat1 (t:=.str) rfl rfl (fun args=>by rcases args with _ | ⟨_,_ | ⟨_,_⟩⟩ <;> rfl) fun w I v args bs hm hsh r hr=>?_⟩
 obtain ⟨rfl,x,y,rfl,hx,hy⟩:=in2 hsh
 obtain ⟨rfl,h0⟩:=ubkr_ hx
 obtain ⟨rfl,h1⟩:=ucfi_ hy
 obtain ⟨⟨h2,h3⟩,hr⟩:=ubbe_ hr
 cases hr
 have hn:((v.2.toNat:Nat):Int)=v.2:=Int.toNat_of_nonneg h2
 have hk:v.2.toNat≤9223372036854775807:=by
  have:=uckp_ h1
  omega
 have hlen:=ucdb_ h3
 refine ⟨rfl,_,fun w' I'=>out1 (ubks_ hlen),?_⟩
 have:=Tryz.strings_Repeat ⟨v.1.toArray⟩ v.2.toNat w hk (ucko_ h3)
 rw [hn] at this
 exact this.mono fun e w' ⟨he,hw⟩=>⟨he,hw,fun h=>by cases h⟩
def u05_:FSpec:=⟨[.val .str],[.val .str],ut9_,false⟩
theorem ubc6_:um_ Go.Proofs.Tryz.prog 66∧FunOK Go.Proofs.Tryz.prog 66 u05_:=by
 refine ⟨uui_ Tryz.func66 (by kernel_rfl) (by kernel_rfl),FunOK.flat1 (t:=.str) rfl rfl (fun args=>by cases args <;> rfl) fun w I v args bs hm hsh r hr=>?_⟩
 obtain ⟨rfl,x,rfl,hx⟩:=in1 hsh
 obtain ⟨rfl,h0⟩:=ubkr_ hx
 obtain ⟨h2,hr⟩:=ubbe_ hr
 obtain ⟨rfl,h3⟩:=str?_some hr
 exact ⟨rfl,_,fun w' I'=>out1 (ubks_ h3),(Tryz.strings_ToLower_any ⟨v.toArray⟩ w (ucda_ h2) (facts hm).2.1 (facts hm).2.2.1).mono fun e w' ⟨he,hw⟩=>⟨he,hw,fun h=>by cases h⟩⟩
theorem ucaw_ (w:World) (t:TypeId) (s:ByteArray):Below w.heap.size w (Lib.bytesWorld w t s):=by
 unfold Lib.bytesWorld
 exact Lib.below_freeze (((Below.refl _ _).drew).alloc (Nat.le_refl _) _) (p:=⟨w.heap.size,_,none⟩) (Nat.le_refl _) _
def ubp3_:FSpec:=⟨[.val .str],[.val (.int .i64),.any],ube7_,false⟩
theorem ub8m_ {P:Program} {w:World} {I:Im} {n:Int} (h:uq0_ .i64 n) (v:Value):ShL P w I [.val (.int .i64),.any] (n,()) [.int .i64 n,v] [] :=
 ⟨_,_,[],[],rfl,rfl,⟨ub93_ h,rfl⟩,v,rfl,rfl⟩
theorem ucjl_ {s:Str} {v:Int} (h:Lib.atoiAll s=.ok v):uq0_ .i64 v:=by
 unfold Lib.atoiAll at h
 split at h
 · cases h
 · simp only at h
   split at h
   · cases h
   · cases h
   · rename_i u hu
     split at h
     · cases h
     · split at h
       · cases h
       · cases h
         split <;> exact ucdc_ (by omega) (by omega)
theorem ucdd_ (s:Str):uq0_ .i64 (Lib.atoiSat s):=by
 unfold Lib.atoiSat
 split <;> exact ucdc_ (by decide) (by decide)
theorem strconv_Atoi_ok:um_ Go.Proofs.Tryz.prog 163∧FunOK Go.Proofs.Tryz.prog 163 ubp3_:=by
 refine ⟨uui_ Tryz.func163 (by kernel_rfl) (by kernel_rfl),FunOK.given fun w I v args bs hm hsh r hr=>?_⟩
 obtain ⟨rfl,x,rfl,hx⟩:=in1 hsh
 obtain ⟨rfl,h0⟩:=ubkr_ hx
 obtain ⟨h2,hr⟩:=ubbe_ hr
 have hs:(⟨Array.mk v⟩:ByteArray).size≤281474976710656:=by have:=ucda_ (a:=v) (n:=281474976710657) (by omega); exact Nat.le_of_lt_succ this
 refine ⟨rfl,?_⟩
 obtain ⟨_,_,_,_,⟨e5,h5,h5'⟩,e6,h6,h6'⟩:=facts hm
 cases hn:Lib.atoiAll v
 · rename_i n
   rw [hn] at hr
   dsimp only at hr
   cases hr
   refine (Tryz.strconv_Atoi_ok ⟨v.toArray⟩ (Nat.le_trans hs (by decide)) n hn w).mono fun e w' ⟨he,hw⟩=>⟨_,[_,_],noX,he,rfl,rfl,?_,(fun h=>by cases h),ub8j_,ub8m_ (ucjl_ hn) _⟩
   rcases hw with rfl | ⟨t,rfl⟩
   · exact Below.refl _ _
   · exact ucaw_ _ _ _
 · rw [hn] at hr
   dsimp only at hr
   cases hr
   exact (Tryz.strconv_Atoi_syntax ⟨v.toArray⟩ hs hn e5 w h5 h5').mono fun e w' ⟨N,he,_,_,hw⟩=>⟨_,[_,_],noX,he,rfl,rfl,hw,(fun h=>by cases h),ub8j_,ub8m_ (ucdc_ (by decide) (by decide)) _⟩
 · rw [hn] at hr
   dsimp only at hr
   cases hr
   exact (Tryz.strconv_Atoi_range ⟨v.toArray⟩ hs hn e6 w h6 h6').mono fun e w' ⟨N,he,_,_,hw⟩=>⟨_,[_,_],noX,he,rfl,rfl,hw,(fun h=>by cases h),ub8j_,ub8m_ (ucdd_ v) _⟩
theorem ucde_ {P:Program} {w:World} {I:Im} {X:Nat→Nat→Prop} {b cap:Nat} {xs:List Str} {cells:Array Value} {el:TypeId} {fz:Nat×Nat} (hb:w.heap[b]? = some (.cells cells el fz)) (hlen:xs.length≤cap) (hl:xs.length≤281474976710656)
 (hc:∀ (i:Nat) x,xs[i]? = some x→cells[i]? = some (.string ⟨x.toArray⟩)) (hs:∀ x∈xs,x.length≤281474976710656) (hX:∀ o,o<xs.length→X b o) :
 VRel w (imNew I X) (.slice .str) xs (.slice (some ⟨b,0,none⟩) xs.length cap):=by
 refine ⟨_,rfl,_,_,rfl,⟨hlen,hl⟩,(fun h=>by cases h),fun ad had=>?_⟩
 cases had
 refine ⟨fun _=>rfl,fun i x hx=>⟨[.string ⟨(show Str from x).toArray⟩],⟨rfl,fun j hj=>?_⟩,rfl,hs x (List.mem_of_getElem? hx)⟩⟩
 have hj0:j=0:=by have:j<1:=hj; omega
 subst hj0
 have e:(0+i*Ty.str.sz+0)=i:=by show 0+i*1+0=i; omega
 have hi:i<xs.length:=(List.getElem?_eq_some_iff.1 hx).1
 refine ⟨.inr ?_,?_⟩
 · rw [e]; exact hX i hi
 · show w.cell? ⟨b,0+i*Ty.str.sz+0,none⟩=_
   rw [e]
   simp only [World.cell?,hb,hc i x hx]
   rfl
theorem ucdf_ (sep:ByteArray) (h1:1≤sep.size):∀ (k:Nat) (s:ByteArray),Lib.countB s sep=k→(Lib.splitB sep 0 k s).length=k+1:=by
 intro k
 induction k with
 | zero=>intro s _; rfl
 | succ k ih =>
   intro s hk
   by_cases hm:Lib.indexB s sep = -1
   · rw [Lib.countB_miss s sep hm] at hk; cases hk
   · have hge:=Lib.index_ge s.data.toList sep.data.toList
     obtain ⟨i,hi⟩:∃ i:Nat,Lib.indexB s sep=i:=⟨(Lib.indexB s sep).toNat,by have:-1≤Lib.indexB s sep:=hge; omega⟩
     rw [Lib.splitB_hit sep 0 k s i hi,List.length_cons,ih]
     have:=Lib.countB_hit s sep i h1 hi
     omega
theorem ucdg_ (sep:ByteArray) (n:Nat):∀ (k:Nat) (s:ByteArray),s.size≤n→∀ x∈Lib.splitB sep 0 k s,x.size≤n:=by
 intro k
 induction k with
 | zero=>intro s hs x hx; rw [Lib.splitB_zero,List.mem_singleton] at hx; subst hx; exact hs
 | succ k ih =>
   intro s hs x hx
   unfold Lib.splitB at hx
   split at hx
   · rw [List.mem_singleton] at hx; subst hx; exact hs
   · rcases List.mem_cons.1 hx with rfl | hx
     · rw [ByteArray.size_extract]; omega
     · exact ih _ (by rw [ByteArray.size_extract]; omega) x hx
def u63_:FSpec:=⟨[.val .str,.val .str],[.val (.slice .str)],strings_Split,true⟩
theorem ubkt_:um_ Go.Proofs.Tryz.prog 216∧FunOK Go.Proofs.Tryz.prog 216 u63_:=by
 refine ⟨uui_ Tryz.func216 (by kernel_rfl) (by kernel_rfl),FunOK.given fun w I v args bs hm hsh r hr=>?_⟩
 obtain ⟨rfl,x,y,rfl,hx,hy⟩:=in2 hsh
 obtain ⟨rfl,h0⟩:=ubkr_ hx
 obtain ⟨rfl,h1⟩:=ubkr_ hy
 obtain ⟨⟨h2,h3⟩,hr⟩:=ubbe_ hr
 cases hr
 obtain ⟨m,hmm⟩:=(facts hm).2.2.2.1
 have h3':1≤(⟨Array.mk v.2⟩:ByteArray).size:=h3
 have hlen:=ucdf_ ⟨Array.mk v.2⟩ h3' _ ⟨Array.mk v.1⟩ rfl
 refine ⟨rfl,(Tryz.strings_Split ⟨v.1.toArray⟩ ⟨v.2.toArray⟩ m w (ucda_ h2) hmm h3').mono fun e w' ⟨he,hw⟩=>?_⟩
 have hs1:w'.heap[w.heap.size]? = some (.cells ((Lib.splitB ⟨v.2.toArray⟩ 0 (Lib.countB ⟨v.1.toArray⟩ ⟨v.2.toArray⟩) ⟨v.1.toArray⟩).map Value.string).toArray 9 (0,0)):=by
  rw [hw]
  show (w.heap.push _)[w.heap.size]? = _
  rw [Array.getElem?_push_size]
 have hbl:Below w.heap.size w w':=by rw [hw]; exact (Below.refl _ _).alloc (Nat.le_refl _) _
 refine ⟨_,[_],fun b o=>b=w.heap.size,he,rfl,rfl,hbl,?_,?_,out1 ?_⟩
 · intro _; rw [hw]; exact Nat.le_refl _
 · rintro b o rfl; exact ⟨Nat.le_refl _,ucc9_ hs1⟩
 · have hcnt:Lib.countB ⟨Array.mk v.1⟩ ⟨Array.mk v.2⟩≤v.1.length+1:=Lib.count_le v.1 v.2
   have:=ucde_ (P:=Tryz.prog) (I:=I) (X:=fun b o=>b=w.heap.size) (xs:=(Lib.splitB ⟨v.2.toArray⟩ 0 (Lib.countB ⟨v.1.toArray⟩ ⟨v.2.toArray⟩) ⟨v.1.toArray⟩).map fun b=>b.data.toList)
    (cap:=Lib.countB ⟨v.1.toArray⟩ ⟨v.2.toArray⟩+1) hs1 ?_ ?_ ?_ ?_ (fun o _=>rfl)
   · rw [List.length_map] at this
     rw [hlen] at this
     exact this
   · rw [List.length_map]; exact Nat.le_of_eq hlen
   · rw [List.length_map]; refine Nat.le_trans (Nat.le_of_eq hlen) ?_
     have h2':v.1.length<4294967281:=h2
     omega
   · intro i x hx
     rw [List.getElem?_map] at hx
     cases hb:(Lib.splitB ⟨v.2.toArray⟩ 0 (Lib.countB ⟨v.1.toArray⟩ ⟨v.2.toArray⟩) ⟨v.1.toArray⟩)[i]? with
     | none=>rw [hb] at hx; cases hx
     | some b=>rw [hb] at hx; cases hx; simp [hb]
   · intro x hx
     obtain ⟨b,hb,rfl⟩:=List.mem_map.1 hx
     have:=ucdg_ ⟨v.2.toArray⟩ v.1.length _ ⟨v.1.toArray⟩ (Nat.le_of_eq (u0q_ v.1)) b hb
     have e:b.data.toList.length=b.size:=rfl
     rw [e]
     exact Nat.le_trans this h0
theorem ucjm_ {w:World} {I:Im} {xs:List Str} {v:Value} (h:VRel w I (.slice .str) xs v) :
 (∃ a cap,v=.slice a 0 cap∧xs=[])∨∃ b o cap,v=.slice (some ⟨b,o,none⟩) xs.length cap∧b<w.heap.size∧xs.length≤cap ∧
  ∀ (j:Nat) x,xs[j]? = some x→w.cell? ⟨b,o+j,none⟩=some (.string ⟨x.toArray⟩)∧x.length≤281474976710656:=by
 obtain ⟨c,h1,a,cap,h2,h3,h4,h5⟩:=h
 have h1:c=[v]:=h1
 rw [h1] at h2
 have h2:v=.slice a xs.length cap:=List.singleton_inj.1 h2
 by_cases he:xs=[]
 · subst he; exact .inl ⟨a,cap,h2,rfl⟩
 · right
   cases a with
   | none=>exact absurd (h4 rfl).1 he
   | some ad =>
     obtain ⟨hsp,h6⟩:=h5 ad rfl
     obtain ⟨b,o,sp⟩:=ad
     have hsp:(⟨b,o,sp⟩:Addr).spot=none:=hsp fun h0=>he (List.eq_nil_of_length_eq_zero (Nat.le_zero.1 (h0▸h3.1)))
     cases hsp
     have key:∀ (j:Nat) x,xs[j]? = some x→w.cell? ⟨b,o+j,none⟩=some (.string ⟨x.toArray⟩)∧x.length≤281474976710656:=by
      intro j x hx
      obtain ⟨c',⟨k1,k2⟩,k3,k4⟩:=h6 j x hx
      have:=(k2 0 Nat.one_pos).2
      rw [k3] at this
      exact ⟨by rw [← show o+j*Ty.str.sz+0=o+j by show o+j*1+0=o+j; omega]; exact this,k4⟩
     have hpos:0<xs.length:=List.length_pos_iff.2 he
     exact ⟨b,o,cap,h2,ub6z_ (key 0 xs[0] (List.getElem?_eq_getElem hpos)).1,h3.1,key⟩
def upo_:FSpec:=⟨[.val (.slice .str),.val .str],[.val .str],strings_Join,false⟩
theorem uuj_:um_ Go.Proofs.Tryz.prog 191∧FunOK Go.Proofs.Tryz.prog 191 upo_:=by
 refine ⟨uui_ Tryz.func191 (by kernel_rfl) (by kernel_rfl),FunOK.flat1 (t:=.str) rfl rfl (fun args=>by rcases args with _ | ⟨_,_ | ⟨_,_⟩⟩ <;> rfl) fun w I v args bs hm hsh r hr=>?_⟩
 obtain ⟨rfl,x,y,rfl,hx,hy⟩:=in2 hsh
 obtain ⟨rfl,h1⟩:=ubkr_ hy
 obtain ⟨⟨h2,h3⟩,hr⟩:=ubbe_ hr
 cases hr
 obtain ⟨xs,sep⟩:List Str×Str:=v
 have h3:(Lib.join xs sep).length≤140737488355328:=h3
 have hout:(Lib.join xs sep).length≤281474976710656:=by omega
 rcases ucjm_ hx with ⟨a,cap,rfl,hxs⟩ | ⟨b,o,cap,rfl,hb,hcap,hcell⟩
 · have hxs:xs=[]:=hxs
   subst hxs
   have e:Lib.join [] sep=[]:=by simp [Lib.join,List.intercalate]
   refine ⟨rfl,.string ⟨(Lib.join [] sep).toArray⟩,fun w' I'=>out1 (ubks_ hout),?_⟩
   rw [e]
   exact (Tryz.strings_Join_none a cap ⟨sep.toArray⟩ w).mono fun e w' ⟨he,hw⟩=>⟨he,ub0p_ hw⟩
 · refine ⟨rfl,.string ⟨(Lib.join xs sep).toArray⟩,fun w' I'=>out1 (ubks_ hout),?_⟩
   have hm1:(xs.map fun x=>(⟨x.toArray⟩:ByteArray)).map (fun b=>b.data.toList)=xs:=by
    rw [List.map_map]; exact List.map_id _
   have:=Tryz.strings_Join b o cap (xs.map fun x=>⟨x.toArray⟩) ⟨sep.toArray⟩ w (fun j x hx=>by
    rw [List.getElem?_map] at hx
    cases hj:xs[j]? with
    | none=>rw [hj] at hx; cases hx
    | some z=>rw [hj] at hx; cases hx; exact (hcell j z hj).1) hb (by rw [List.length_map]; exact h2) (by rw [List.length_map]; exact hcap) (by rw [hm1]; exact h3)
   rw [hm1,List.length_map] at this
   exact this.mono fun e w' ⟨he,hw⟩=>⟨he,hw,fun h=>by cases h⟩
theorem After.toBelow {gv:Nat→Prop} {w w':World} {I I':Im} (h:After gv w I w' I') (hg:∀ b,¬ gv b):Below w.heap.size w w' :=
 ⟨h.os,h.tape,h.output,h.size,fun b hb=>h.heap b hb (hg b)⟩
theorem ucfj_ {w w':World} {I:Im} (hm:Mem w I) (hb:Below w.heap.size w w'):Ext w I w' I∧Mem w' I:=by
 have he:Ext w I w' I:=⟨fun b o h=>⟨h,by simp only [World.cell?,hb.block b (hm.1 b o h)]⟩,fun b h=>⟨h,hb.block b (hm.2.1 b h)⟩⟩
 exact ⟨he,fun b o h=>Nat.lt_of_lt_of_le (hm.1 b o h) hb.size,fun b h=>Nat.lt_of_lt_of_le (hm.2.1 b h) hb.size,hm.2.2.ext he⟩
theorem ucax_ {P:Program} {g:Nat} (h:um_ P g):∀ args w,(callFunc g args).run P w=.ok (.enter g args) w:=by
 obtain ⟨fn,c,h1,h2,h3⟩:=h
 intro args w
 have h2':fn.name≠"runtime.NumGoroutine" := by simpa using h2
 simp [callFunc,h1,h2',h3]
theorem ucdh_ (p:Nat→Bool) (s:ByteArray):∀ x∈Lib.goFieldsP p s,x.size≤s.size:=by
 intro x hx
 obtain ⟨q,_,rfl⟩:=List.mem_map.1 hx
 rw [ByteArray.size_extract]; omega
noncomputable def u4v_:FSpec:=⟨[.val .str,.hof false (.int .i32) .bool],[.val (.slice .str)],ui3_,false⟩
theorem ubnq_:um_ Go.Proofs.Tryz.prog 173∧FunOK Go.Proofs.Tryz.prog 173 u4v_:=by
 refine ⟨uui_ Tryz.func173 (by kernel_rfl) (by kernel_rfl),FunOK.given fun w I v args bs hm hsh r hr=>?_⟩
 obtain ⟨a1,vs,b1,b2,rfl,rfl,⟨hx,rfl⟩,a2,rfl,rfl,g,lb,ha2,hent,hof⟩:=hsh
 obtain ⟨rfl,h0⟩:=ubkr_ hx
 obtain rfl:=List.singleton_inj.1 ha2
 obtain ⟨s,F⟩:Str×(Int→Option Bool):=v
 have hr:ui3_ (s,F)=some r:=hr
 unfold ui3_ at hr
 obtain ⟨⟨h1,h2,h3⟩,hr⟩:=ubbe_ hr
 cases hr
 have hp:PredGrows Tryz.prog g lb (fun r=>(F (r:Int)).getD false) w:=by
  intro W x hx hb
  obtain ⟨he,hm'⟩:=ucfj_ hm hb
  obtain ⟨b,hb'⟩:=h2 x hx
  have hb':F (x:Int)=some b:=hb'
  have:=hof W I he hm' (x:Int) [.int .i32 x] ⟨_,rfl,ub93_ ⟨by show (-2147483648:Int)≤_; omega,by show _≤(2147483647:Int); omega⟩⟩ b hb'
  refine this.mono fun e w'' ⟨rv,I'',k1,k2,k3,_⟩=>?_
  have hrv:=ucjj_ k3
  subst hrv
  show e=.returned (.bool ((F (x:Int)).getD false))∧_
  rw [hb']
  exact ⟨k1,After.toBelow k2 fun _ h=>h⟩
 have:=Any.strings_FieldsFunc_grows Tryz.lays229 g lb (ucax_ hent) (fun r=>(F (r:Int)).getD false) ⟨s.toArray⟩ w (by rw [u0q_]; exact h1) hp (by kernel_rfl) (by kernel_rfl)
 refine ⟨rfl,this.mono fun e w' ⟨A,he,hA,hown,hbl⟩=>?_⟩
 obtain ⟨_,hh | ⟨g',cap,cur,k1,k2,k3,k4,k5,k6,k7⟩⟩:=hown
 · cases hh.1
 · obtain ⟨rfl,rfl⟩:A=g'∧(Lib.goFieldsP (fun r=>(F (r:Int)).getD false) ⟨s.toArray⟩).length=cap:=by injection k1 with e1 e2 e3; injection e1 with e1; injection e1 with e1; exact ⟨e1,e3⟩
   refine ⟨_,[_],fun b o=>b=A,he,rfl,rfl,hbl,(fun h=>by cases h),?_,out1 ?_⟩
   · rintro b o rfl; exact ⟨hA,ucc9_ k3⟩
   · have:=ucde_ (P:=Tryz.prog) (I:=I) (X:=fun b o=>b=A) (xs:=(Lib.goFieldsP (fun r=>(F (r:Int)).getD false) ⟨s.toArray⟩).map fun b=>b.data.toList)
      (cap:=(Lib.goFieldsP (fun r=>(F (r:Int)).getD false) ⟨s.toArray⟩).length) k3 (by rw [List.length_map]; exact Nat.le_refl _) (by rw [List.length_map]; exact h3) ?_ ?_ (fun o _=>rfl)
     · rw [List.length_map] at this
       exact this
     · intro i x hx
       rw [List.getElem?_map] at hx
       cases hb:(Lib.goFieldsP (fun r=>(F (r:Int)).getD false) ⟨s.toArray⟩)[i]? with
       | none=>rw [hb] at hx; cases hx
       | some b =>
         rw [hb] at hx
         cases hx
         have hi:=(List.getElem?_eq_some_iff.1 hb).1
         have:=congrArg (fun l=>l[i]?) k7
         simp only [List.getElem?_take,List.getElem?_map,hb] at this
         rw [if_pos (by omega)] at this
         simpa using this
     · intro x hx
       obtain ⟨b,hb,rfl⟩:=List.mem_map.1 hx
       have:=ucdh_ _ ⟨s.toArray⟩ b hb
       rw [u0q_] at this
       have e:b.data.toList.length=b.size:=rfl
       rw [e]
       exact Nat.le_trans this h0
theorem ub60_ {el:TypeId} (h:Lay Tryz.prog (.agg bldTy) el):el=197:=by
 have hall:((List.range Tryz.prog.types.size).all fun i=>!(layB Tryz.prog (.agg bldTy)).1 i||Nat.beq i 197)=true:=by kernel_rfl
 have hlt:el<Tryz.prog.types.size:=uckb_ h.inf rfl
 have h1:=List.all_eq_true.1 hall el (List.mem_range.2 hlt)
 have h2:(layB Tryz.prog (.agg bldTy)).1 el=true:=h
 rw [h2] at h1
 exact Nat.eq_of_beq_eq_true h1
set_option maxHeartbeats 1000000 in
set_option maxRecDepth 100000 in
theorem ucjn_ (b:Nat) (w:World) (h0:w.cell? ⟨b,0,none⟩=some (.pointer (some ⟨b,0,none⟩))) :
 Calls Tryz.prog 176 #[.pointer (some ⟨b,0,none⟩)] w fun e w'=>e=.returned (.tuple #[])∧w'=w:=by
 have mixed:Tryz.prog.follows .mixedOrders=true:=by kernel_rfl
 have t72:=Tryz.underlying197; have a72:=Tryz.isAgg197; have z72:=Tryz.sizeOf197; have v72:=Tryz.zeroValue197; have u72:=run_underlying Tryz.underlying197
 have t70:=Tryz.underlying194; have a70:=Tryz.isAgg194; have z70:=Tryz.sizeOf194; have v70:=Tryz.zeroValue194; have u70:=run_underlying Tryz.underlying194
 have t4:=Tryz.underlying4; have a4:=Tryz.isAgg4; have z4:=Tryz.sizeOf4; have v4:=Tryz.zeroValue4; have u4:=run_underlying Tryz.underlying4
 obtain ⟨j,hj,_⟩:=Option.map_eq_some_iff.1 (show (Tryz.prog.info? 197).map (·.size)=some 2 by kernel_rfl)
 go_enter Tryz.func176,Tryz.ntmps176
 go_wp2
 rw [Lib.run_neq_ptr_same w _ Tryz.underlying194 hj]
 go_wp2
 go_end0
 exact ⟨rfl,rfl⟩
set_option maxHeartbeats 1000000 in
set_option maxRecDepth 100000 in
theorem ucia_ (b:Nat) (w:World) (h0:w.cell? ⟨b,0,none⟩=some (.pointer none)) (hsh:w.shape? b=some (197,2)) (hfz:w.frozen? ⟨b,0,none⟩=false) :
 Calls Tryz.prog 176 #[.pointer (some ⟨b,0,none⟩)] w fun e w'=>e=.returned (.tuple #[])∧w'=w.setCell ⟨b,0,none⟩ (.pointer (some ⟨b,0,none⟩)):=by
 obtain ⟨j,hj,hjs⟩:=Option.map_eq_some_iff.1 (show (Tryz.prog.info? 197).map (·.size)=some 2 by kernel_rfl)
 have mixed:Tryz.prog.follows .mixedOrders=true:=by kernel_rfl
 have t72:=Tryz.underlying197; have a72:=Tryz.isAgg197; have z72:=Tryz.sizeOf197; have v72:=Tryz.zeroValue197; have u72:=run_underlying Tryz.underlying197
 have t70:=Tryz.underlying194; have a70:=Tryz.isAgg194; have z70:=Tryz.sizeOf194; have v70:=Tryz.zeroValue194; have u70:=run_underlying Tryz.underlying194
 have t4:=Tryz.underlying4; have a4:=Tryz.isAgg4; have z4:=Tryz.sizeOf4; have v4:=Tryz.zeroValue4; have u4:=run_underlying Tryz.underlying4
 have t164:=Tryz.underlying292; have a164:=Tryz.isAgg292; have z164:=Tryz.sizeOf292; have v164:=Tryz.zeroValue292; have u164:=run_underlying Tryz.underlying292
 go_enter Tryz.func176,Tryz.ntmps176
 go_wp2
 rw [Lib.run_to_unsafe w ⟨b,0,none⟩ Tryz.underlying194 Tryz.underlying292 hj (by rw [hjs]; decide) hsh (Nat.zero_lt_succ 1)]
 simp only [Result.andThen]
 rw [Oper.upon_value]
 go_wp2
 rw [run_callFunc_extern Tryz.func223 (by kernel_rfl) (by kernel_rfl) (by kernel_rfl) (e:=Extern.AbiNoEscape.same) (by kernel_rfl)]
 rw [Lib.run_noEscape]
 simp only [Result.andThen]
 rw [Oper.upon_value]
 go_wp2
 rw [Lib.run_from_unsafe w ⟨b,0,none⟩ Tryz.underlying292 Tryz.underlying194 hj hsh (by kernel_rfl)]
 simp only [Result.andThen]
 rw [Oper.upon_value]
 go_wp2
 go_end0
 exact ⟨rfl,rfl⟩
theorem cell1 {w:World} {b:Nat} {cells:Array Value} {p q:Value} {el:TypeId} {fz:Nat×Nat} (hb:w.heap[b]? = some (.cells cells el fz)) (hc:cells.toList=[p,q]) :
 w.cell? ⟨b,0,none⟩=some p∧w.cell? ⟨b,1,none⟩=some q:=by
 have:cells = #[p,q]:=by apply Array.ext'; exact hc
 subst this
 exact ⟨by simp only [World.cell?,hb]; rfl,by simp only [World.cell?,hb]; rfl⟩
set_option maxHeartbeats 2000000 in
set_option maxRecDepth 100000 in
theorem uckq_ (b g cap:Nat) (l:List UInt8) (w:World) (cur:Array Value) (fz:Nat×Nat) (hb:w.cell? ⟨b,1,none⟩=some (.slice (some ⟨g,0,none⟩) l.length cap)) (h0:l≠[])
 (hg:w.heap[g]? = some (.cells cur 5 fz)) (hcap:l.length≤cap) (hcs:cur.size=cap) (hmax:l.length≤281474976710656) (hx:∀ (j:Nat) x,l[j]? = some x→cur[j]? = some (.int .u8 x.toNat)) :
 Calls Tryz.prog 122 #[.pointer (some ⟨b,0,none⟩)] w fun e w'=>e=.returned (.string ⟨l.toArray⟩)∧w'=w.drew.freeze ⟨g,0,none⟩ l.length:=by
 have hl0:l.length≠0:=by simpa using h0
 have c1:w.drew.cell? ⟨b,1,none⟩=some (.slice (some ⟨g,0,none⟩) l.length cap):=hb
 have hSD:(Builtin.unsafeSliceData_ #[195] 254 #[.slice (some ⟨g,0,none⟩) l.length cap]).run Tryz.prog w.drew=.ok (.pointer (some ⟨g,0,none⟩)) w.drew :=
  Lib.run_unsafeSliceData_row _ _ _ _ _ _ (by omega)
 have hUS:(Builtin.unsafeString_ #[254,3] 9 #[.pointer (some ⟨g,0,none⟩),.int .i64 l.length]).run Tryz.prog w.drew=.ok (.string ⟨l.toArray⟩) (w.drew.freeze ⟨g,0,none⟩ l.length):=by
  refine Lib.run_unsafeString_row w.drew 254 3 9 5 Tryz.underlying254 (by kernel_rfl) g cur.size (by have hg':w.drew.heap[g]? = some (.cells cur 5 fz):=hg; simp [World.shape?,hg']) l h0 (by omega) (by omega) ?_
  intro j x hj
  have hg':w.drew.heap[g]? = some (.cells cur 5 fz):=hg
  have ha:(⟨g,0,none⟩:Addr).add j=⟨g,j,none⟩:=by simp [Addr.add]; exact fun h=>h.symm
  rw [ha]
  simp only [World.cell?,hg',hx j x hj]
  rfl
 clear hx hcs hg hcap hmax h0
 have mixed:Tryz.prog.follows .mixedOrders=true:=by kernel_rfl
 have t72:=Tryz.underlying197; have a72:=Tryz.isAgg197; have z72:=Tryz.sizeOf197; have v72:=Tryz.zeroValue197; have u72:=run_underlying Tryz.underlying197
 have t70:=Tryz.underlying194; have a70:=Tryz.isAgg194; have z70:=Tryz.sizeOf194; have v70:=Tryz.zeroValue194; have u70:=run_underlying Tryz.underlying194
 have t37:=Tryz.underlying195; have a37:=Tryz.isAgg195; have z37:=Tryz.sizeOf195; have v37:=Tryz.zeroValue195; have u37:=run_underlying Tryz.underlying195
 have t127:=Tryz.underlying254; have a127:=Tryz.isAgg254; have z127:=Tryz.sizeOf254; have v127:=Tryz.zeroValue254; have u127:=run_underlying Tryz.underlying254
 have t3:=Tryz.underlying3; have a3:=Tryz.isAgg3; have z3:=Tryz.sizeOf3; have v3:=Tryz.zeroValue3; have u3:=run_underlying Tryz.underlying3
 have t9:=Tryz.underlying9; have a9:=Tryz.isAgg9; have z9:=Tryz.sizeOf9; have v9:=Tryz.zeroValue9; have u9:=run_underlying Tryz.underlying9
 have t5:=Tryz.underlying5; have a5:=Tryz.isAgg5; have z5:=Tryz.sizeOf5; have v5:=Tryz.zeroValue5; have u5:=run_underlying Tryz.underlying5
 go_enter Tryz.func122,Tryz.ntmps122
 go_wp2
 go_region_o
 all_goals (go_wp2; go_ret; exact ⟨rfl,rfl⟩)
set_option maxHeartbeats 2000000 in
set_option maxRecDepth 100000 in
theorem ucfk_ (b g:Nat) (w:World) (cur:Array Value) (fz:Nat×Nat) (hb:w.cell? ⟨b,1,none⟩=some (.slice (some ⟨g,0,none⟩) 0 0)) (hg:w.heap[g]? = some (.cells cur 5 fz)) :
 Calls Tryz.prog 122 #[.pointer (some ⟨b,0,none⟩)] w fun e w'=>e=.returned (.string ⟨#[]⟩)∧Below w.heap.size w w':=by
 have hUS:∀ (W:World) (q:Option Addr),(Builtin.unsafeString_ #[254,3] 9 #[.pointer q,.int .i64 0]).run Tryz.prog W=.ok (.string .empty) W:=fun W q=>Lib.run_unsafeString_none W _ _ _ q
 have hlt:=ub6z_ hb
 have c1:w.drew.cell? ⟨b,1,none⟩=some (.slice (some ⟨g,0,none⟩) 0 0):=hb
 have hSD:(Builtin.unsafeSliceData_ #[195] 254 #[.slice (some ⟨g,0,none⟩) 0 0]).run Tryz.prog w.drew=.ok (.pointer (some ⟨w.drew.heap.size,0,none⟩)) (w.drew.alloc (.view ⟨g,0,none⟩ 5)) :=
  Lib.run_unsafeSliceData_zero w.drew _ _ 5 Tryz.underlying254 ⟨g,0,none⟩ 0 (5,cur.size) (by have hg':w.drew.heap[g]? = some (.cells cur 5 fz):=hg; simp [World.shape?,hg'])
 have hB:Below w.heap.size w (w.drew.alloc (.view ⟨g,0,none⟩ 5)):=(Below.drew (Below.refl _ w)).alloc (Nat.le_refl _) _
 have c2:(w.drew.alloc (.view ⟨g,0,none⟩ 5)).cell? ⟨b,1,none⟩=some (.slice (some ⟨g,0,none⟩) 0 0):=(hB.cell hlt).trans hb
 have c3:(w.alloc (.view ⟨g,0,none⟩ 5)).drew.cell? ⟨b,1,none⟩=some (.slice (some ⟨g,0,none⟩) 0 0):=c2
 have mixed:Tryz.prog.follows .mixedOrders=true:=by kernel_rfl
 have t72:=Tryz.underlying197; have a72:=Tryz.isAgg197; have z72:=Tryz.sizeOf197; have v72:=Tryz.zeroValue197; have u72:=run_underlying Tryz.underlying197
 have t70:=Tryz.underlying194; have a70:=Tryz.isAgg194; have z70:=Tryz.sizeOf194; have v70:=Tryz.zeroValue194; have u70:=run_underlying Tryz.underlying194
 have t37:=Tryz.underlying195; have a37:=Tryz.isAgg195; have z37:=Tryz.sizeOf195; have v37:=Tryz.zeroValue195; have u37:=run_underlying Tryz.underlying195
 have t127:=Tryz.underlying254; have a127:=Tryz.isAgg254; have z127:=Tryz.sizeOf254; have v127:=Tryz.zeroValue254; have u127:=run_underlying Tryz.underlying254
 have t3:=Tryz.underlying3; have a3:=Tryz.isAgg3; have z3:=Tryz.sizeOf3; have v3:=Tryz.zeroValue3; have u3:=run_underlying Tryz.underlying3
 have t9:=Tryz.underlying9; have a9:=Tryz.isAgg9; have z9:=Tryz.sizeOf9; have v9:=Tryz.zeroValue9; have u9:=run_underlying Tryz.underlying9
 have t5:=Tryz.underlying5; have a5:=Tryz.isAgg5; have z5:=Tryz.sizeOf5; have v5:=Tryz.zeroValue5; have u5:=run_underlying Tryz.underlying5
 go_enter Tryz.func122,Tryz.ntmps122
 go_wp2
 go_region_o
 all_goals (go_wp2; go_ret; exact ⟨rfl,hB⟩)
theorem After.only {w w':World} {I:Im} (hm:Mem w I) {b:Nat} {bs:List Nat} (hb:b∈bs) (hI:∀ o,¬ I.cell b o) (hO:¬ I.obj b) (hh:∀ k,k≠b→w'.heap[k]? = w.heap[k]?) (hs:w'.heap.size=w.heap.size)
 (hos:w'.os=w.os) (ht:w'.tape=w.tape) (ho:w'.output=w.output):After (·∈bs) w I w' I:=by
 have hx:Ext w I w' I:=⟨fun k o h=>⟨h,by simp only [World.cell?,hh k (fun e=>hI o (e▸h))]⟩,fun k h=>⟨h,hh k (fun e=>hO (e▸h))⟩⟩
 exact ⟨hx,fun k _ hk=>hh k (fun e=>hk (e▸hb)),Nat.le_of_eq hs.symm,fun _ _ h=>.inl h,fun _ h=>.inl h,fun k o h=>hs▸hm.1 k o h,fun k h=>hs▸hm.2.1 k h,hos,ht,ho,hm.2.2.ext hx⟩
theorem ucay_ {w:World} {b o:Nat} {v:Value} {k:Nat} (h:k≠b):(w.setCell ⟨b,o,none⟩ v).heap[k]? = w.heap[k]?:=Below.heap_setCell w ⟨b,o,none⟩ v k h
def ujc_:FSpec:=⟨[.bld 5 false],[],uhu_,false⟩
theorem ura_:um_ Go.Proofs.Tryz.prog 176∧FunOK Go.Proofs.Tryz.prog 176 ujc_:=by
 refine ⟨uui_ Tryz.func176 (by kernel_rfl) (by kernel_rfl),fun w I v args bs hm hsh hnd r hr=>?_⟩
 cases hr
 obtain ⟨v1,rfl,b,cells,el,p,q,bs',e1,rfl,h1,hlay,h2,hp,h4,h5,h6⟩:=hsh
 obtain rfl:=List.singleton_inj.1 e1
 obtain rfl:=ub60_ hlay
 obtain ⟨c0,c1⟩:=cell1 h1 h2
 have hnd':=List.nodup_cons.1 hnd
 rcases hp with rfl | rfl
 · have hsh:w.shape? b=some (197,2):=by
    have:cells.size=2:=by rw [← Array.length_toList,h2]; rfl
    simp [World.shape?,h1,this]
   refine (ucia_ b w c0 hsh (by simp [World.frozen?,h1])).mono fun e w' ⟨he,hw⟩=>?_
   have hh:∀ k,k≠b→w'.heap[k]? = w.heap[k]?:=fun k hk=>by rw [hw]; exact ucay_ hk
   have hs:w'.heap.size=w.heap.size:=by rw [hw]; simp [World.setCell]
   have hbk:w'.heap[b]? = some (.cells #[.pointer (some ⟨b,0,none⟩),q] 197 (0,0)):=by
    have hc:cells = #[.pointer none,q]:=by apply Array.ext'; exact h2
    subst hc
    rw [hw]
    simp only [World.setCell,Array.getElem?_modify,h1]
    simp
   refine ⟨_,[],I,b::bs',he,rfl,rfl,After.only hm List.mem_cons_self h4 h5 hh hs (by rw [hw]; rfl) (by rw [hw]; rfl) (by rw [hw]; rfl),?_,hnd,fun b hb=>.inl hb,fun h=>by cases h⟩
   refine ⟨_,rfl,b,_,197,_,q,bs',rfl,rfl,hbk,hlay,rfl,.inr rfl,h4,h5,?_⟩
   rcases h6 with h6 | ⟨g,cap,gc,k1,k2,k3,⟨fz,k4,k4'⟩,k5,k6,k7,k8⟩
   · exact .inl h6
   · have hgb:g≠b:=by rw [k2] at hnd'; intro e; exact hnd'.1 (by rw [e]; exact List.mem_singleton_self _)
     refine .inr ⟨g,cap,gc,k1,k2,k3,⟨fz,(hh g hgb).trans k4,k4'⟩,k5,?_,k7,k8⟩
     have hx:Ext w I w' I:=(After.only hm (bs:=b::bs') List.mem_cons_self h4 h5 hh hs (by rw [hw]; rfl) (by rw [hw]; rfl) (by rw [hw]; rfl)).ext
     exact fun i x hx'=>(k6 i x hx').ext hx
 · refine (ucjn_ b w c0).mono fun e w' ⟨he,hw⟩=>?_
   subst hw
   refine ⟨_,[],I,b::bs',he,rfl,rfl,After.refl hm,?_,hnd,fun b hb=>.inl hb,fun h=>by cases h⟩
   exact ⟨_,rfl,b,cells,197,_,q,bs',rfl,rfl,h1,hlay,h2,.inr rfl,h4,h5,h6⟩
theorem ucdi_ {w:World} {b n:Nat} {k:Nat} (h:k≠b):(w.freeze ⟨b,0,none⟩ n).heap[k]? = w.heap[k]?:=by
 unfold World.freeze
 split
 · rfl
 · simp only [Array.getElem?_modify]
   rw [if_neg (fun e=>h e.symm)]
theorem ucaz_ {w:World} {a:Addr} {n:Nat}:(w.freeze a n).heap.size=w.heap.size:=by
 unfold World.freeze
 split
 · rfl
 · simp
theorem ucfl_ {w:World} {a:Addr} {n:Nat}:(w.freeze a n).os=w.os∧(w.freeze a n).tape=w.tape∧(w.freeze a n).output=w.output:=by
 unfold World.freeze
 split <;> exact ⟨rfl,rfl,rfl⟩
theorem ucib_ {xs:List Int} (h:∀ x∈xs,uq0_ .u8 x):xs=ue8_ (strOf xs):=by
 unfold ue8_ strOf
 rw [List.map_map]
 conv=>lhs; rw [← List.map_id xs]
 refine List.map_congr_left fun x hx=>?_
 have h1:0≤x∧x≤255:=h x hx
 show x=((UInt8.ofNat x.toNat).toNat:Int)
 rw [UInt8.toNat_ofNat']
 omega
def ub5_:FSpec:=⟨[.bld 5 true],[.val .str],ucd_,false⟩
theorem uco_:um_ Go.Proofs.Tryz.prog 122∧FunOK Go.Proofs.Tryz.prog 122 ub5_:=by
 refine ⟨uui_ Tryz.func122 (by kernel_rfl) (by kernel_rfl),fun w I v args bs hm hsh hnd r hr=>?_⟩
 cases hr
 obtain ⟨v1,rfl,b,cells,el,p,q,bs',e1,rfl,h1,hlay,h2,hp,h4,h5,h6⟩:=hsh
 obtain rfl:=List.singleton_inj.1 e1
 obtain rfl:=ub60_ hlay
 obtain ⟨c0,c1⟩:=cell1 h1 h2
 have hnd':=List.nodup_cons.1 hnd
 have hcells:cells = #[p,q]:=by apply Array.ext'; exact h2
 subst hcells
 have empty:∀ (w':World) (e:Ending),(show List Int from v)=[]→e=.returned (.string ⟨#[]⟩)→Below w.heap.size w w'→∃ rv vs I' bs'',e=.returned rv∧vs.length=1∧retIs vs rv∧After (·∈b::bs') w I w' I' ∧
  ShL Tryz.prog w' I' [.val .str] (strOf v) (vs++[]) bs''∧bs''.Nodup∧(∀ k∈bs'',k∈b::bs'∨w.heap.size≤k)∧(false=true→w.drawn≤w'.drawn):=by
  intro w' e hv he hb
  refine ⟨_,[_],imNew I noX,[],he,rfl,rfl,(After.below hm hb ub8j_).mono (fun k hk=>by cases hk),?_,.nil,(fun k hk=>by cases hk),fun h=>by cases h⟩
  have:strOf v=[]:=by have hv:v=([]:List Int):=hv; rw [hv]; rfl
  rw [this]
  exact out1 (ubks_ (x:=[]) (by decide))
 rcases h6 with ⟨rfl,k1,k2⟩ | ⟨g,cap,gc,rfl,k2,k3,⟨fz,k4,k4'⟩,k5,k6,k7,k8⟩
 · exact (Any.Builder_String_nil Tryz.lays169 Tryz.Builder_Extra_169 w.heap.size b p w h1).mono fun e w' ⟨he,hb⟩=>empty w' e k1 he hb
 · obtain ⟨xs,hxs⟩:∃ xs:List Int,xs=v:=⟨v,rfl⟩
   subst hxs
   have k3:LenOK xs.length cap:=k3
   have k5:gc.size=cap:=by rw [k5]; exact Nat.mul_one _
   by_cases h0:xs=[]
   · subst h0
     by_cases hc:cap=0
     · subst hc
       exact (ucfk_ b g w gc fz c1 k4).mono fun e w' ⟨he,hb⟩=>empty w' e rfl he hb
     · exact (Any.Builder_String_room Tryz.lays169 Tryz.Builder_Extra_169 w.heap.size b g cap p w hc h1).mono fun e w' ⟨he,hb⟩=>empty w' e rfl he hb
   · have hrow:∀ (j:Nat) x,xs[j]? = some x→gc[j]? = some (.int .u8 x)∧uq0_ .u8 x:=by
      intro j x hx
      obtain ⟨e1,e2⟩:=k6 j x hx
      refine ⟨?_,e2⟩
      have e1:((gc.toList.drop (j*1)).take 1)=[.int .u8 x]:=e1
      have:=congrArg (fun l=>l[0]?) e1
      simpa using this
     have hk:∀ x∈xs,uq0_ .u8 x:=fun x hx=>let ⟨j,hj⟩:=List.getElem?_of_mem hx; (hrow j x hj).2
     have hb:xs=ue8_ (strOf xs):=ucib_ hk
     have hl:(strOf xs).length=xs.length:=by simp [strOf]
     refine (uckq_ b g cap (strOf xs) w gc fz (by rw [hl]; exact c1) (fun e=>h0 (by rw [hb,e]; rfl)) k4 (by rw [hl]; exact k3.1) k5 (by rw [hl]; exact k3.2) (fun j x hj=>?_)).mono fun e w' ⟨he,hw⟩=>?_
     · have:xs[j]? = some (x.toNat:Int):=by rw [hb]; simp [ue8_,hj]
       exact (hrow j _ this).1
     · obtain ⟨o1,o2,o3⟩:=ucfl_ (w:=w.drew) (a:=⟨g,0,none⟩) (n:=(strOf xs).length)
       refine ⟨_,[_],I,[],he,rfl,rfl,After.only hm (b:=g) (by rw [k2]; simp) k7 k8 (fun k hk=>by rw [hw]; exact ucdi_ hk) (by rw [hw]; exact ucaz_) (by rw [hw]; exact o1) (by rw [hw]; exact o2) (by rw [hw]; exact o3),?_,.nil,(fun k hk=>by cases hk),fun h=>by cases h⟩
       exact out1 (ubks_ (by rw [hl]; exact k3.2))
end Go.Ev.Pv
namespace Go.Proofs
open Go.Shelf
def Tryz.sort58_ren:Go.Shelf.Ren:=⟨fun | 6=>58 | 15=>45 | 14=>98 | 28=>91 | 29=>92 | 20=>151 | 21=>152 | 22=>153 | 23=>154 | 24=>155 | 25=>156 | 26=>157 | 27=>158 | 46=>207 | 47=>141 | 48=>142 | 49=>208 | 50=>209 | 57=>239 | n=>n,fun | 22=>74 | 24=>120 | 25=>123 | 3=>3 | 39=>100 | 0=>0 | 53=>153 | 55=>155 | 4=>4 | 46=>147 | 45=>146 | 50=>89 | 5=>5 | 9=>9 | 66=>222 | 70=>226 | 76=>265 | 77=>266 | n=>n,fun | n=>n⟩
theorem Tryz.sort58:Go.Proofs.SlLaysF0.n6 Tryz.prog Tryz.sort58_ren:={
 mixed:=by kernel_rfl
 f6:=⟨Tryz.f58.name,by decide,Tryz.func58.trans (congrArg some (by kernel_rfl))⟩
 f14:=⟨Tryz.f98.name,by decide,Tryz.func98.trans (congrArg some (by kernel_rfl))⟩
 f15:=Tryz.func45.trans (congrArg some (by kernel_rfl))
 f20:=⟨Tryz.f151.name,by decide,Tryz.func151.trans (congrArg some (by kernel_rfl))⟩
 f21:=⟨Tryz.f152.name,by decide,Tryz.func152.trans (congrArg some (by kernel_rfl))⟩
 f22:=⟨Tryz.f153.name,by decide,Tryz.func153.trans (congrArg some (by kernel_rfl))⟩
 f23:=⟨Tryz.f154.name,by decide,Tryz.func154.trans (congrArg some (by kernel_rfl))⟩
 f24:=⟨Tryz.f155.name,by decide,Tryz.func155.trans (congrArg some (by kernel_rfl))⟩
 f25:=⟨Tryz.f156.name,by decide,Tryz.func156.trans (congrArg some (by kernel_rfl))⟩
 f26:=⟨Tryz.f157.name,by decide,Tryz.func157.trans (congrArg some (by kernel_rfl))⟩
 f27:=⟨Tryz.f158.name,by decide,Tryz.func158.trans (congrArg some (by kernel_rfl))⟩
 f28:=Tryz.func91.trans (congrArg some (by kernel_rfl))
 f29:=Tryz.func92.trans (congrArg some (by kernel_rfl))
 f46:=⟨Tryz.f207.name,by decide,Tryz.func207.trans (congrArg some (by kernel_rfl))⟩
 f47:=Tryz.func141.trans (congrArg some (by kernel_rfl))
 f48:=Tryz.func142.trans (congrArg some (by kernel_rfl))
 f49:=⟨Tryz.f208.name,by decide,Tryz.func208.trans (congrArg some (by kernel_rfl))⟩
 f50:=⟨Tryz.f209.name,by decide,Tryz.func209.trans (congrArg some (by kernel_rfl))⟩
 f57:=⟨Tryz.f239.name,by decide,Tryz.func239.trans (congrArg some (by kernel_rfl))⟩
 t0:=Tryz.underlying0
 a0:=Tryz.isAgg0
 z0:=Tryz.sizeOf0
 v0:=Tryz.zeroValue0
 t3:=Tryz.underlying3
 a3:=Tryz.isAgg3
 z3:=Tryz.sizeOf3
 v3:=Tryz.zeroValue3
 t4:=Tryz.underlying4
 a4:=Tryz.isAgg4
 z4:=Tryz.sizeOf4
 v4:=Tryz.zeroValue4
 t5:=Tryz.underlying5
 a5:=Tryz.isAgg5
 z5:=Tryz.sizeOf5
 v5:=Tryz.zeroValue5
 t9:=Tryz.underlying9
 a9:=Tryz.isAgg9
 z9:=Tryz.sizeOf9
 v9:=Tryz.zeroValue9
 t22:=Tryz.underlying74
 a22:=Tryz.isAgg74
 z22:=Tryz.sizeOf74
 v22:=Tryz.zeroValue74
 t25:=Tryz.underlying123
 a25:=Tryz.isAgg123
 z25:=Tryz.sizeOf123
 v25:=Tryz.zeroValue123
 t39:=Tryz.underlying100
 a39:=Tryz.isAgg100
 z39:=Tryz.sizeOf100
 v39:=Tryz.zeroValue100
 t45:=Tryz.underlying146
 a45:=Tryz.isAgg146
 z45:=Tryz.sizeOf146
 v45:=Tryz.zeroValue146
 t46:=Tryz.underlying147
 a46:=Tryz.isAgg147
 z46:=Tryz.sizeOf147
 v46:=Tryz.zeroValue147
 t50:=Tryz.underlying89
 a50:=Tryz.isAgg89
 z50:=Tryz.sizeOf89
 v50:=Tryz.zeroValue89
 t53:=Tryz.underlying153
 a53:=Tryz.isAgg153
 z53:=Tryz.sizeOf153
 v53:=Tryz.zeroValue153
 t55:=Tryz.underlying155
 a55:=Tryz.isAgg155
 z55:=Tryz.sizeOf155
 v55:=Tryz.zeroValue155
 t66:=Tryz.underlying222
 a66:=Tryz.isAgg222
 z66:=Tryz.sizeOf222
 v66:=Tryz.zeroValue222
 t70:=Tryz.underlying226
 a70:=Tryz.isAgg226
 z70:=Tryz.sizeOf226
 v70:=Tryz.zeroValue226
 t76:=Tryz.underlying265
 a76:=Tryz.isAgg265
 z76:=Tryz.sizeOf265
 v76:=Tryz.zeroValue265
 t77:=Tryz.underlying266
 a77:=Tryz.isAgg266
 z77:=Tryz.sizeOf266
 v77:=Tryz.zeroValue266 }
def Tryz.sort17_ren:Go.Shelf.Ren:=⟨fun | 6=>17 | 15=>45 | 14=>44 | 28=>91 | 29=>92 | 20=>83 | 21=>84 | 22=>85 | 23=>86 | 24=>87 | 25=>88 | 26=>89 | 27=>90 | 46=>140 | 47=>141 | 48=>142 | 49=>143 | 50=>144 | 57=>188 | n=>n,fun | 22=>22 | 24=>31 | 25=>57 | 3=>3 | 39=>100 | 0=>0 | 53=>153 | 55=>155 | 4=>4 | 46=>147 | 45=>146 | 50=>89 | 5=>5 | 9=>9 | 66=>222 | 70=>226 | 76=>265 | 77=>266 | n=>n,fun | n=>n⟩
theorem Tryz.sort17:Go.Proofs.SlLaysF0.n6 Tryz.prog Tryz.sort17_ren:={
 mixed:=by kernel_rfl
 f6:=⟨Tryz.f17.name,by decide,Tryz.func17.trans (congrArg some (by kernel_rfl))⟩
 f14:=⟨Tryz.f44.name,by decide,Tryz.func44.trans (congrArg some (by kernel_rfl))⟩
 f15:=Tryz.func45.trans (congrArg some (by kernel_rfl))
 f20:=⟨Tryz.f83.name,by decide,Tryz.func83.trans (congrArg some (by kernel_rfl))⟩
 f21:=⟨Tryz.f84.name,by decide,Tryz.func84.trans (congrArg some (by kernel_rfl))⟩
 f22:=⟨Tryz.f85.name,by decide,Tryz.func85.trans (congrArg some (by kernel_rfl))⟩
 f23:=⟨Tryz.f86.name,by decide,Tryz.func86.trans (congrArg some (by kernel_rfl))⟩
 f24:=⟨Tryz.f87.name,by decide,Tryz.func87.trans (congrArg some (by kernel_rfl))⟩
 f25:=⟨Tryz.f88.name,by decide,Tryz.func88.trans (congrArg some (by kernel_rfl))⟩
 f26:=⟨Tryz.f89.name,by decide,Tryz.func89.trans (congrArg some (by kernel_rfl))⟩
 f27:=⟨Tryz.f90.name,by decide,Tryz.func90.trans (congrArg some (by kernel_rfl))⟩
 f28:=Tryz.func91.trans (congrArg some (by kernel_rfl))
 f29:=Tryz.func92.trans (congrArg some (by kernel_rfl))
 f46:=⟨Tryz.f140.name,by decide,Tryz.func140.trans (congrArg some (by kernel_rfl))⟩
 f47:=Tryz.func141.trans (congrArg some (by kernel_rfl))
 f48:=Tryz.func142.trans (congrArg some (by kernel_rfl))
 f49:=⟨Tryz.f143.name,by decide,Tryz.func143.trans (congrArg some (by kernel_rfl))⟩
 f50:=⟨Tryz.f144.name,by decide,Tryz.func144.trans (congrArg some (by kernel_rfl))⟩
 f57:=⟨Tryz.f188.name,by decide,Tryz.func188.trans (congrArg some (by kernel_rfl))⟩
 t0:=Tryz.underlying0
 a0:=Tryz.isAgg0
 z0:=Tryz.sizeOf0
 v0:=Tryz.zeroValue0
 t3:=Tryz.underlying3
 a3:=Tryz.isAgg3
 z3:=Tryz.sizeOf3
 v3:=Tryz.zeroValue3
 t4:=Tryz.underlying4
 a4:=Tryz.isAgg4
 z4:=Tryz.sizeOf4
 v4:=Tryz.zeroValue4
 t5:=Tryz.underlying5
 a5:=Tryz.isAgg5
 z5:=Tryz.sizeOf5
 v5:=Tryz.zeroValue5
 t9:=Tryz.underlying9
 a9:=Tryz.isAgg9
 z9:=Tryz.sizeOf9
 v9:=Tryz.zeroValue9
 t22:=Tryz.underlying22
 a22:=Tryz.isAgg22
 z22:=Tryz.sizeOf22
 v22:=Tryz.zeroValue22
 t25:=Tryz.underlying57
 a25:=Tryz.isAgg57
 z25:=Tryz.sizeOf57
 v25:=Tryz.zeroValue57
 t39:=Tryz.underlying100
 a39:=Tryz.isAgg100
 z39:=Tryz.sizeOf100
 v39:=Tryz.zeroValue100
 t45:=Tryz.underlying146
 a45:=Tryz.isAgg146
 z45:=Tryz.sizeOf146
 v45:=Tryz.zeroValue146
 t46:=Tryz.underlying147
 a46:=Tryz.isAgg147
 z46:=Tryz.sizeOf147
 v46:=Tryz.zeroValue147
 t50:=Tryz.underlying89
 a50:=Tryz.isAgg89
 z50:=Tryz.sizeOf89
 v50:=Tryz.zeroValue89
 t53:=Tryz.underlying153
 a53:=Tryz.isAgg153
 z53:=Tryz.sizeOf153
 v53:=Tryz.zeroValue153
 t55:=Tryz.underlying155
 a55:=Tryz.isAgg155
 z55:=Tryz.sizeOf155
 v55:=Tryz.zeroValue155
 t66:=Tryz.underlying222
 a66:=Tryz.isAgg222
 z66:=Tryz.sizeOf222
 v66:=Tryz.zeroValue222
 t70:=Tryz.underlying226
 a70:=Tryz.isAgg226
 z70:=Tryz.sizeOf226
 v70:=Tryz.zeroValue226
 t76:=Tryz.underlying265
 a76:=Tryz.isAgg265
 z76:=Tryz.sizeOf265
 v76:=Tryz.zeroValue265
 t77:=Tryz.underlying266
 a77:=Tryz.isAgg266
 z77:=Tryz.sizeOf266
 v77:=Tryz.zeroValue266 }
end Go.Proofs
namespace Go.Ev.Pv
open Go.Proofs
def uky_:FSpec:=⟨[.io 120 (.agg (.prod (.agg (.prod (.int .i64) (.prod .str (.prod .bool .str)))) (.agg (.prod (.int .i64) (.prod .str (.prod .bool .str)))))),.hof true (.prod (.agg (.prod (.agg (.prod (.int .i64) (.prod .str (.prod .bool .str)))) (.agg (.prod (.int .i64) (.prod .str (.prod .bool .str)))))) (.agg (.prod (.agg (.prod (.int .i64) (.prod .str (.prod .bool .str)))) (.agg (.prod (.int .i64) (.prod .str (.prod .bool .str))))))) (.int .i64)],[],uhd_,true⟩
theorem uxp_:um_ Go.Proofs.Tryz.prog 58∧FunOK Go.Proofs.Tryz.prog 58 uky_ :=
 ⟨uui_ Tryz.func58 (by kernel_rfl) (by kernel_rfl),ucgu_ Tryz.sort58 rfl Tryz.isAgg120 Tryz.sizeOf120 (by decide)⟩
def uhh_:FSpec:=⟨[.io 31 (.agg (.prod .str (.prod (.slice .str) (.prod .str (.prod (.int .i64) (.prod .bool (.prod .str (.slice (.agg (.prod .str (.prod (.int .i64) (.prod (.slice (.agg (.prod (.int .i64) .str))) (.prod (.slice .str) (.slice .str)))))))))))))),.hof true (.prod (.agg (.prod .str (.prod (.slice .str) (.prod .str (.prod (.int .i64) (.prod .bool (.prod .str (.slice (.agg (.prod .str (.prod (.int .i64) (.prod (.slice (.agg (.prod (.int .i64) .str))) (.prod (.slice .str) (.slice .str)))))))))))))) (.agg (.prod .str (.prod (.slice .str) (.prod .str (.prod (.int .i64) (.prod .bool (.prod .str (.slice (.agg (.prod .str (.prod (.int .i64) (.prod (.slice (.agg (.prod (.int .i64) .str))) (.prod (.slice .str) (.slice .str))))))))))))))) (.int .i64)],[],ufx_,true⟩
theorem unt_:um_ Go.Proofs.Tryz.prog 17∧FunOK Go.Proofs.Tryz.prog 17 uhh_ :=
 ⟨uui_ Tryz.func17 (by kernel_rfl) (by kernel_rfl),ucgu_ Tryz.sort17 rfl Tryz.isAgg31 Tryz.sizeOf31 (by decide)⟩
end Go.Ev.Pv
namespace Go.Proofs
open Go.Shelf
def Tryz.lays190_ren:Go.Shelf.Ren:=⟨fun | 190=>40 | 125=>45 | 258=>81 | 128=>91 | 129=>92 | 302=>131 | 303=>132 | 304=>133 | 305=>134 | 306=>135 | 307=>136 | 308=>137 | 309=>138 | 310=>139 | 333=>185 | 329=>141 | 330=>142 | 334=>186 | 335=>187 | 336=>71 | 344=>229 | n=>n,fun | 31=>23 | 9=>9 | 3=>3 | 46=>100 | 0=>0 | 51=>153 | 53=>155 | 4=>4 | 183=>147 | 182=>146 | 131=>89 | 5=>5 | 218=>222 | 222=>226 | 228=>265 | 229=>266 | n=>n,fun | n=>n⟩
theorem Tryz.lays190:Go.Proofs.Lays.n190 Tryz.prog Tryz.lays190_ren:={
 mixed:=by kernel_rfl
 f125:=Tryz.func45.trans (congrArg some (by kernel_rfl))
 f128:=Tryz.func91.trans (congrArg some (by kernel_rfl))
 f129:=Tryz.func92.trans (congrArg some (by kernel_rfl))
 f190:=Tryz.func40.trans (congrArg some (by kernel_rfl))
 f258:=Tryz.func81.trans (congrArg some (by kernel_rfl))
 f302:=Tryz.func131.trans (congrArg some (by kernel_rfl))
 f303:=Tryz.func132.trans (congrArg some (by kernel_rfl))
 f304:=Tryz.func133.trans (congrArg some (by kernel_rfl))
 f305:=Tryz.func134.trans (congrArg some (by kernel_rfl))
 f306:=Tryz.func135.trans (congrArg some (by kernel_rfl))
 f307:=Tryz.func136.trans (congrArg some (by kernel_rfl))
 f308:=Tryz.func137.trans (congrArg some (by kernel_rfl))
 f309:=Tryz.func138.trans (congrArg some (by kernel_rfl))
 f310:=Tryz.func139.trans (congrArg some (by kernel_rfl))
 f329:=Tryz.func141.trans (congrArg some (by kernel_rfl))
 f330:=Tryz.func142.trans (congrArg some (by kernel_rfl))
 f333:=Tryz.func185.trans (congrArg some (by kernel_rfl))
 f334:=Tryz.func186.trans (congrArg some (by kernel_rfl))
 f335:=Tryz.func187.trans (congrArg some (by kernel_rfl))
 f336:=Tryz.func71.trans (congrArg some (by kernel_rfl))
 f344:=Tryz.func229.trans (congrArg some (by kernel_rfl))
 t0:=Tryz.underlying0
 a0:=Tryz.isAgg0
 z0:=Tryz.sizeOf0
 v0:=Tryz.zeroValue0
 t3:=Tryz.underlying3
 a3:=Tryz.isAgg3
 z3:=Tryz.sizeOf3
 v3:=Tryz.zeroValue3
 t4:=Tryz.underlying4
 a4:=Tryz.isAgg4
 z4:=Tryz.sizeOf4
 v4:=Tryz.zeroValue4
 t5:=Tryz.underlying5
 a5:=Tryz.isAgg5
 z5:=Tryz.sizeOf5
 v5:=Tryz.zeroValue5
 t9:=Tryz.underlying9
 a9:=Tryz.isAgg9
 z9:=Tryz.sizeOf9
 v9:=Tryz.zeroValue9
 t31:=Tryz.underlying23
 a31:=Tryz.isAgg23
 z31:=Tryz.sizeOf23
 v31:=Tryz.zeroValue23
 t46:=Tryz.underlying100
 a46:=Tryz.isAgg100
 z46:=Tryz.sizeOf100
 v46:=Tryz.zeroValue100
 t51:=Tryz.underlying153
 a51:=Tryz.isAgg153
 z51:=Tryz.sizeOf153
 v51:=Tryz.zeroValue153
 t53:=Tryz.underlying155
 a53:=Tryz.isAgg155
 z53:=Tryz.sizeOf155
 v53:=Tryz.zeroValue155
 t131:=Tryz.underlying89
 a131:=Tryz.isAgg89
 z131:=Tryz.sizeOf89
 v131:=Tryz.zeroValue89
 t182:=Tryz.underlying146
 a182:=Tryz.isAgg146
 z182:=Tryz.sizeOf146
 v182:=Tryz.zeroValue146
 t183:=Tryz.underlying147
 a183:=Tryz.isAgg147
 z183:=Tryz.sizeOf147
 v183:=Tryz.zeroValue147
 t218:=Tryz.underlying222
 a218:=Tryz.isAgg222
 z218:=Tryz.sizeOf222
 v218:=Tryz.zeroValue222
 t222:=Tryz.underlying226
 a222:=Tryz.isAgg226
 z222:=Tryz.sizeOf226
 v222:=Tryz.zeroValue226
 t228:=Tryz.underlying265
 a228:=Tryz.isAgg265
 z228:=Tryz.sizeOf265
 v228:=Tryz.zeroValue265
 t229:=Tryz.underlying266
 a229:=Tryz.isAgg266
 z229:=Tryz.sizeOf266
 v229:=Tryz.zeroValue266 }
open Go.Sort Go.RowKit in
theorem Tryz.slices_Sort_string (blk off cap:Nat) (ss:List (List UInt8)) (w:World) (hH:Holds encStr w blk off ss.toArray) (hblk:blk<w.heap.size) (hsz:ss.length<4611686018427387904) :
 Calls Tryz.prog 40 #[.slice (some ⟨blk,off,none⟩) ss.length cap] w fun e w' =>
  e=.returned (.tuple #[])∧∃ n os,w'=grow (putRow encStr (Sort.ahead w n) blk off (ss.mergeSort fun x y=>decide (x≤y)).toArray) os:=Any.slices_Sort_string Tryz.lays190 blk off cap ss w hH hblk hsz
def Tryz.lays194_ren:Go.Shelf.Ren:=⟨fun | 194=>41 | n=>n,fun | 31=>23 | 9=>9 | 3=>3 | 4=>4 | 0=>0 | n=>n,fun | n=>n⟩
theorem Tryz.lays194:Go.Proofs.Lays.n194 Tryz.prog Tryz.lays194_ren:={
 mixed:=by kernel_rfl
 f194:=Tryz.func41.trans (congrArg some (by kernel_rfl))
 t0:=Tryz.underlying0
 a0:=Tryz.isAgg0
 z0:=Tryz.sizeOf0
 v0:=Tryz.zeroValue0
 t3:=Tryz.underlying3
 a3:=Tryz.isAgg3
 z3:=Tryz.sizeOf3
 v3:=Tryz.zeroValue3
 t4:=Tryz.underlying4
 a4:=Tryz.isAgg4
 z4:=Tryz.sizeOf4
 v4:=Tryz.zeroValue4
 t9:=Tryz.underlying9
 a9:=Tryz.isAgg9
 z9:=Tryz.sizeOf9
 v9:=Tryz.zeroValue9
 t31:=Tryz.underlying23
 a31:=Tryz.isAgg23
 z31:=Tryz.sizeOf23
 v31:=Tryz.zeroValue23 }
open Go.RowKit Go.Lib Go.Sort in
theorem Tryz.slices_Compact_string (blk off cap:Nat) (zs:List (List UInt8)) (w:World) (hH:Holds encStr w blk off zs.toArray) (hsz:zs.length≤9223372036854775807) (hcap:zs.length≤cap) :
 Calls Tryz.prog 41 #[.slice (some ⟨blk,off,none⟩) zs.length cap] w fun e w'=>e=.returned (.slice (some ⟨blk,off,none⟩) (Lib.compact zs).length cap)∧∃ q,w'=putRow encStr (Sort.ahead w q) blk off (Lib.compact zs++List.replicate (zs.length-(Lib.compact zs).length) []).toArray:=Any.slices_Compact_string Tryz.lays194 blk off cap zs w hH hsz hcap
open Go.RowKit Go.Lib Go.Sort in
theorem Tryz.slices_Compact_string_empty (a:Option Addr) (cap:Nat) (w:World) :
 Calls Tryz.prog 41 #[.slice a 0 cap] w fun e w'=>e=.returned (.slice a 0 cap)∧w'=w:=Any.slices_Compact_string_empty Tryz.lays194 a cap w
open Go.RowKit Go.Sort in
theorem Tryz.slices_Sort_string_none (p:Option Addr) (cap:Nat) (w:World) :
 Calls Tryz.prog 40 #[.slice p 0 cap] w fun e w'=>e=.returned (.tuple #[])∧w'=w:=Any.slices_Sort_string_none Tryz.lays190 p cap w
def Tryz.laysSlH10_f42_ren:Go.Shelf.Ren:=⟨fun | 10=>42 | 6=>82 | n=>n,fun | 22=>23 | 23=>9 | 25=>97 | 3=>3 | 4=>4 | 0=>0 | n=>n,fun | n=>n⟩
theorem Tryz.laysSlH10_f42:Go.Proofs.SlLaysH.n10 Tryz.prog Tryz.laysSlH10_f42_ren:={
 mixed:=by kernel_rfl
 f6:=⟨Tryz.f82.name,by decide,Tryz.func82.trans (congrArg some (by kernel_rfl))⟩
 f10:=⟨Tryz.f42.name,by decide,Tryz.func42.trans (congrArg some (by kernel_rfl))⟩
 t0:=Tryz.underlying0
 a0:=Tryz.isAgg0
 z0:=Tryz.sizeOf0
 v0:=Tryz.zeroValue0
 t3:=Tryz.underlying3
 a3:=Tryz.isAgg3
 z3:=Tryz.sizeOf3
 v3:=Tryz.zeroValue3
 t4:=Tryz.underlying4
 a4:=Tryz.isAgg4
 z4:=Tryz.sizeOf4
 v4:=Tryz.zeroValue4
 t22:=Tryz.underlying23
 a22:=Tryz.isAgg23
 z22:=Tryz.sizeOf23
 v22:=Tryz.zeroValue23
 a23:=Tryz.isAgg9
 z23:=Tryz.sizeOf9
 t25:=Tryz.underlying97
 a25:=Tryz.isAgg97
 z25:=Tryz.sizeOf97
 v25:=Tryz.zeroValue97 }
open Go.RowKit Go.Lib Go.Sort in
theorem Tryz.slices_DeleteFunc {α:Type} [Inhabited α] (enc:α→Value) (hO:OneCell enc) (p:α→Bool) (g:Nat) (lb:Array Value) (eg:∀ args w,(callFunc g args).run Tryz.prog w=.ok (.enter g args) w) (zr:α) (v23:∀ w,(zeroValue 9).run Tryz.prog w=.ok (enc zr) w) (blk off cap:Nat) (d:Array α) (w:World) (hp:PredAt Tryz.prog g lb enc p w) (hpo:PredOver Tryz.prog g lb enc p blk off d.size w) (hH:Holds enc w blk off d) (hsz:d.size≤9223372036854775807) (hcap:d.size≤cap) :
 Calls Tryz.prog 42 #[.slice (some ⟨blk,off,none⟩) d.size cap,.func (.func g) #[] lb] w fun e w'=>e=.returned (.slice (some ⟨blk,off,none⟩) (d.toList.filter fun x=>!p x).length cap)∧∃ q,w'=putRow enc (Sort.ahead w q) blk off ((d.toList.filter fun x=>!p x)++List.replicate (d.size-(d.toList.filter fun x=>!p x).length) zr).toArray:=AnyE.slices_DeleteFunc Tryz.laysSlH10_f42 enc hO p g lb eg zr v23 blk off cap d w hp hpo hH hsz hcap
end Go.Proofs
namespace Go.Ev.Pv
open Go.Proofs Go.RowKit Go.Sort Go.Shelf
structure StrAt (w:World) (I:Im) (el:Nat) (xs:List Str) (b cap:Nat) (cells:Array Value):Prop where
 len:LenOK xs.length cap
 row:RowAt w b cells el
 sz:cells.size=cap*1
 rows:RowsOK w I .str xs cells.toList
 noC:∀ o,¬ I.cell b o
 noO:¬ I.obj b
theorem StrAt.get {w:World} {I:Im} {el:Nat} {xs:List Str} {b cap:Nat} {cells:Array Value} (h:StrAt w I el xs b cap cells) (j:Nat) (hj:j<xs.length) :
 cells[j]? = some (encStr xs[j])∧xs[j].length≤281474976710656:=by
 obtain ⟨h1,h2⟩:=h.rows j xs[j] (List.getElem?_eq_getElem hj)
 refine ⟨?_,h2⟩
 have h1:(cells.toList.drop (j*1)).take 1=[encStr xs[j]]:=h1
 rw [Nat.mul_one] at h1
 have h3:=congrArg (fun l:List Value=>l[0]?) h1
 simpa using h3
theorem StrAt.holds {w:World} {I:Im} {el:Nat} {xs:List Str} {b cap:Nat} {cells:Array Value} (h:StrAt w I el xs b cap cells):Holds encStr w b 0 xs.toArray:=by
 intro j hj
 have hj:j<xs.length:=by simpa using hj
 obtain ⟨h1,_⟩:=h.get j hj
 have hjc:j<cells.size:=(Array.getElem?_eq_some_iff.1 h1).1
 obtain ⟨fz,hb,hfz⟩:=h.row
 refine ⟨?_,?_⟩
 · simp only [World.cell?,hb,Nat.zero_add]
   simp [h1,hj]
 · simp only [World.frozen?,hb,Nat.zero_add]
   rcases hfz with h | h
   · simp; omega
   · simp; omega
theorem StrAt.put {w:World} {I:Im} {el:Nat} {xs:List Str} {b cap:Nat} {cells:Array Value} (h:StrAt w I el xs b cap cells) (hm:Mem w I) (ys zs:List Str) (hl:ys.length=xs.length)
 (hz:∀ (i:Nat) (z:Str),zs[i]? = some z→ys[i]? = some z) (hb:∀ y∈zs,y.length≤281474976710656) {w':World} {n:Nat} {os:Array Go.Obj} (hw:w'=grow (putRow encStr (Sort.ahead w n) b 0 ys.toArray) os) :
 After (·∈[b]) w I w' I∧StrAt w' I el zs b cap (putCells encStr 0 ys.toArray cells)∧w.drawn≤w'.drawn:=by
 obtain ⟨fz,hbl,hfz⟩:=h.row
 have hlt:b<w.heap.size:=(Array.getElem?_eq_some_iff.1 hbl).1
 have a1:w'.heap[b]? = some (.cells (putCells encStr 0 ys.toArray cells) el fz):=by
  rw [hw,ubfi_ _ _ _ (by simpa using hlt)]
  exact ubtg_ encStr _ b 0 _ hbl
 have a2:∀ j,j≠b→j<w.heap.size→w'.heap[j]? = w.heap[j]?:=fun j hj hjl=>by
  rw [hw,ubfi_ _ _ _ (by simpa using hjl)]
  exact ub3t_ encStr _ b 0 _ j hj
 have a3:w.heap.size≤w'.heap.size:=by rw [hw]; simp
 have hpc:(putCells encStr 0 ys.toArray cells).size=cells.size:=by simp [putCells]
 have x1:Ext w I w' I:=⟨fun j o hc=>⟨hc,by simp only [World.cell?,a2 j (fun e=>h.noC o (e▸hc)) (hm.1 j o hc)]⟩,fun j ho=>⟨ho,a2 j (fun e=>h.noO (e▸ho)) (hm.2.1 j ho)⟩⟩
 have hzl:zs.length≤xs.length:=by
  rw [← hl]
  apply Classical.byContradiction
  intro hn
  have h1:=hz ys.length (zs[ys.length]'(by omega)) (List.getElem?_eq_getElem _)
  rw [List.getElem?_eq_none (Nat.le_refl _)] at h1
  cases h1
 refine ⟨⟨x1,fun j hj hn=>a2 j (fun e=>hn (by rw [e]; simp)) hj,a3,fun _ _ h=>.inl h,fun _ h=>.inl h,fun j o hc=>Nat.lt_of_lt_of_le (hm.1 j o hc) a3,fun j ho=>Nat.lt_of_lt_of_le (hm.2.1 j ho) a3,by rw [hw]; rfl,by rw [hw]; rfl,by rw [hw]; rfl,hm.2.2.ext x1⟩,
  ⟨⟨Nat.le_trans hzl h.len.1,Nat.le_trans hzl h.len.2⟩,⟨fz,a1,by rw [hpc]; exact hfz⟩,by rw [hpc]; exact h.sz,?_,h.noC,h.noO⟩,by rw [hw]; exact Nat.le_add_right _ _⟩
 intro i z hi
 have hi2:=hz i z hi
 have hil:i<ys.length:=(List.getElem?_eq_some_iff.1 hi2).1
 have hic:i<cells.size:=by rw [h.sz,Nat.mul_one]; have:=h.len.1; omega
 refine ⟨?_,hb z (List.mem_of_getElem? hi)⟩
 have hv:(ys.toArray)[i]! = z:=by
  rw [getElem!_pos _ i (by simpa using hil)]
  have:=(List.getElem?_eq_some_iff.1 hi2).2
  simpa using this
 show ((putCells encStr 0 ys.toArray cells).toList.drop (i*1)).take 1=[encStr z]
 rw [Nat.mul_one]
 apply List.ext_getElem?
 intro c
 cases c with
 | zero =>
   rw [List.getElem?_take,if_pos (by omega),List.getElem?_drop,Array.getElem?_toList]
   simp only [putCells,Array.getElem?_mapIdx,Nat.add_zero]
   rw [Array.getElem?_eq_getElem hic]
   simp only [Option.map_some]
   rw [if_pos ⟨Nat.zero_le _,by simpa using hil⟩,Nat.sub_zero,hv]
   rfl
 | succ c=>rw [List.getElem?_eq_none (by simp; omega),List.getElem?_eq_none (by simp)]
theorem StrAt.of {w:World} {I:Im} {el:Nat} {xs:List Str} {v:Value} {bs:List Nat} (h:ShC Tryz.prog w I (.own el .str true) xs [v] bs) :
 (v=.slice none 0 0∧xs=[]∧bs=[])∨∃ b cap cells,v=.slice (some ⟨b,0,none⟩) xs.length cap∧bs=[b]∧StrAt w I el xs b cap cells:=by
 rcases h with ⟨e1,e2,e3⟩ | ⟨b,cap,cells,e1,e2,h1,h2,h3,h4,h5,_,h6⟩
 · exact .inl ⟨List.singleton_inj.1 e1,e2,e3⟩
 · exact .inr ⟨b,cap,cells,List.singleton_inj.1 e1,e2,h1,h2,h3,h4,h5 rfl,h6⟩
theorem StrAt.own {w:World} {I:Im} {el:Nat} {xs:List Str} {b cap:Nat} {cells:Array Value} (h:StrAt w I el xs b cap cells) :
 ShC Tryz.prog w I (.own el .str true) xs [.slice (some ⟨b,0,none⟩) xs.length cap] [b] :=
 .inr ⟨b,cap,cells,rfl,rfl,h.len,h.row,h.sz,h.rows,fun _=>h.noC,fun e=>(by cases e),h.noO⟩
theorem StrAt.io {w:World} {I:Im} {el:Nat} {xs:List Str} {b cap:Nat} {cells:Array Value} (h:StrAt w I el xs b cap cells) :
 ShC Tryz.prog w I (.io el .str) xs [.slice (some ⟨b,0,none⟩) xs.length cap] [b] :=
 .inr ⟨b,cap,cells,rfl,rfl,h.len,h.row,h.sz,h.rows,fun _=>h.noC,fun e=>(by cases e),h.noO⟩
theorem StrAt.all {w:World} {I:Im} {el:Nat} {xs:List Str} {b cap:Nat} {cells:Array Value} (h:StrAt w I el xs b cap cells):∀ y∈xs,y.length≤281474976710656:=by
 intro y hy
 obtain ⟨i,hi,rfl⟩:=List.getElem_of_mem hy
 exact (h.get i hi).2
def u4w_:FSpec:=⟨[.io 9 .str],[],slices_Sort_string,true⟩
theorem ubnr_:um_ Go.Proofs.Tryz.prog 40∧FunOK Go.Proofs.Tryz.prog 40 u4w_:=by
 refine ⟨uui_ Tryz.func40 (by kernel_rfl) (by kernel_rfl),fun w I v args bs hm hsh hnd r hr=>?_⟩
 obtain ⟨a,rfl,ha⟩:=hsh
 have ha:ShC Tryz.prog w I (.own 9 .str true) v [a] bs:=ha
 have hr:r=(show List Str from v).mergeSort fun x y=>decide (x≤y):=(Option.some.inj hr).symm
 rcases StrAt.of ha with ⟨rfl,hx,rfl⟩ | ⟨b,cap,cells,rfl,rfl,hs⟩
 · refine (Tryz.slices_Sort_string_none none 0 w).mono fun e w' ⟨he,hw⟩=>?_
   subst hw
   have hx:v=([]:List Str):=hx
   subst hx
   have:r=([]:List Str):=hr.trans List.mergeSort_nil
   subst this
   exact ⟨_,[],I,[],he,rfl,rfl,After.refl hm,⟨_,rfl,.inl ⟨rfl,rfl,rfl⟩⟩,List.nodup_nil,fun b hb=>.inl hb,fun _=>Nat.le_refl _⟩
 · have hlen:(show List Str from r).length=(show List Str from v).length:=by rw [hr]; exact List.length_mergeSort _
   refine (Tryz.slices_Sort_string b 0 cap v w hs.holds hs.row.lt (Nat.lt_of_le_of_lt hs.len.2 (by decide))).mono fun e w' ⟨he,n,os,hw⟩=>?_
   rw [← hr] at hw
   obtain ⟨h1,h2,h3⟩:=hs.put hm r r hlen (fun i z h=>h) (fun y hy=>hs.all y (by rw [hr] at hy; exact (List.mergeSort_perm _ _).mem_iff.1 hy)) hw
   refine ⟨_,[],I,[b],he,rfl,rfl,h1,⟨_,rfl,?_⟩,by simp,fun j hj=>.inl hj,fun _=>h3⟩
   have h4:=h2.io
   rw [hlen] at h4
   exact h4
theorem uca0_ (xs:List Str):(Lib.compact xs).length≤xs.length:=by
 unfold Lib.compact Lib.compactUpTo
 rw [List.length_map]
 exact Nat.le_trans (List.length_filter_le _ _) (by simp)
theorem uca1_ (xs:List Str):∀ y∈Lib.compact xs,y∈xs:=by
 intro y hy
 unfold Lib.compact Lib.compactUpTo at hy
 obtain ⟨j,hj,rfl⟩:=List.mem_map.1 hy
 have hj:j<xs.length:=List.mem_range.1 (List.mem_filter.1 hj).1
 have:(xs.toArray)[j]! = xs[j]:=by rw [getElem!_pos _ j (by simpa using hj)]; simp
 rw [this]
 exact List.getElem_mem hj
theorem ub2e_ {α:Type} {a c:List α} (i:Nat) (z:α) (h:a[i]? = some z):(a++c)[i]? = some z:=by
 rw [List.getElem?_append_left (List.getElem?_eq_some_iff.1 h).1,h]
theorem StrAt.cut {w:World} {I:Im} {el:Nat} {xs:List Str} {b cap:Nat} {cells:Array Value} (h:StrAt w I el xs b cap cells) (hm:Mem w I) (zs:List Str) (hl:zs.length≤xs.length) (hs:∀ z∈zs,z∈xs) {w':World} {n:Nat}
 (hw:w'=putRow encStr (Sort.ahead w n) b 0 (zs++List.replicate (xs.length-zs.length) ([]:Str)).toArray) :
 After (·∈[b]) w I w' I∧ShC Tryz.prog w' I (.own el .str true) zs [.slice (some ⟨b,0,none⟩) zs.length cap] [b]∧w.drawn≤w'.drawn:=by
 obtain ⟨h1,h2,h3⟩:=h.put hm (zs++List.replicate (xs.length-zs.length) ([]:Str)) zs (by rw [List.length_append,List.length_replicate]; omega) (fun i z hi=>ub2e_ i z hi) (fun y hy=>h.all y (hs y hy)) (n:=n) (os:=#[]) (hw.trans (grow_empty _).symm)
 exact ⟨h1,h2.own,h3⟩
def uxq_:FSpec:=⟨[.own 9 .str true],[.own 9 .str true],slices_Compact_string,true⟩
theorem ubfl_:um_ Go.Proofs.Tryz.prog 41∧FunOK Go.Proofs.Tryz.prog 41 uxq_:=by
 refine ⟨uui_ Tryz.func41 (by kernel_rfl) (by kernel_rfl),fun w I v args bs hm hsh hnd r hr=>?_⟩
 obtain ⟨a,rfl,ha⟩:=hsh
 have ha:ShC Tryz.prog w I (.own 9 .str true) v [a] bs:=ha
 have hr:r=Lib.compact (show List Str from v):=(Option.some.inj hr).symm
 rcases StrAt.of ha with ⟨rfl,hx,rfl⟩ | ⟨b,cap,cells,rfl,rfl,hs⟩
 · refine (Tryz.slices_Compact_string_empty none 0 w).mono fun e w' ⟨he,hw⟩=>?_
   subst hw
   have hx:v=([]:List Str):=hx
   subst hx
   have:r=([]:List Str):=by rw [hr]; rfl
   subst this
   exact ⟨_,[_],I,[],he,rfl,rfl,After.refl hm,⟨_,rfl,.inl ⟨rfl,rfl,rfl⟩⟩,List.nodup_nil,fun b hb=>.inl hb,fun _=>Nat.le_refl _⟩
 · have hn:=hs.len
   refine (Tryz.slices_Compact_string b 0 cap v w hs.holds (Nat.le_trans hn.2 (by decide)) hn.1).mono fun e w' ⟨he,n,hw⟩=>?_
   rw [← hr] at he hw
   obtain ⟨h1,h2,h3⟩:=hs.cut hm r (by rw [hr]; exact uca0_ _) (by rw [hr]; exact uca1_ _) hw
   exact ⟨_,[_],I,[b],he,rfl,rfl,h1,⟨_,rfl,h2⟩,by simp,fun j hj=>.inl hj,fun _=>h3⟩
theorem ub94_ (W:World) (b o:Nat) (y x:List UInt8) (hc:W.cell? ⟨b,o,none⟩=some (encStr y)) :
 FnGives Tryz.prog 43 #[.pointer (some ⟨b,o,none⟩)] #[encStr x] (.bool (eqS x y)) W:=by
 show Calls Tryz.prog 43 #[encStr x,.pointer (some ⟨b,o,none⟩)] W _
 go_enter Tryz.func43,Tryz.ntmps43
 go_wp2
 all_goals (go_ret; refine ⟨?_,0,rfl⟩; simp [eqS])
theorem ucdj_ {xs:List Str} {p:Str→Bool}:∀ z∈xs.filter p,z∈xs:=fun z hz=>(List.mem_filter.1 hz).1
def usy_:FSpec:=⟨[.own 9 .str true,.cl 43 (.prod .str (.prod (.slice .str) (.prod .str (.prod (.int .i64) (.prod .bool (.prod .str (.slice (.agg (.prod .str (.prod (.int .i64) (.prod (.slice (.agg (.prod (.int .i64) .str))) (.prod (.slice .str) (.slice .str)))))))))))))],[.own 9 .str true],unu_,true⟩
theorem u8r_:um_ Go.Proofs.Tryz.prog 42∧FunOK Go.Proofs.Tryz.prog 42 usy_:=by
 refine ⟨uui_ Tryz.func42 (by kernel_rfl) (by kernel_rfl),fun w I v args bs hm hsh hnd r hr=>?_⟩
 obtain ⟨xs,adv⟩:=v
 obtain ⟨a,vs',bs1,bs2,rfl,rfl,ha,f,rfl,hf⟩:=hsh
 have ha:ShC Tryz.prog w I (.own 9 .str true) xs [a] bs1:=ha
 obtain ⟨rfl,ad,c,hfv,hsp,hrow,hrel⟩:=hf
 obtain rfl:f=.func (.func 43) #[] #[.pointer (some ad)]:=List.singleton_inj.1 hfv
 have hr:(bif (show List Str from xs).isEmpty then none else some ((show List Str from xs).filter fun s=>!(eqS s adv.1)))=some (show List Str from r):=hr
 cases hem:(show List Str from xs).isEmpty with
 | true=>rw [hem] at hr; cases hr
 | false =>
 rw [hem] at hr
 have hr:r=(show List Str from xs).filter fun s=>!(eqS s adv.1):=(Option.some.inj hr).symm
 obtain ⟨c1,c2,rfl,hc1,_⟩:=hrel
 obtain ⟨rfl,_⟩:=hc1
 obtain ⟨ab,ao,asp⟩:=ad
 have hsp:asp=none:=hsp
 subst hsp
 have hcell:w.cell? ⟨ab,ao,none⟩=some (encStr adv.1):=by
  have:=(hrow.at_ 0 (by decide)).2
  simpa using this
 have hI:I.cell ab ao:=by
  have:=(hrow.at_ 0 (by decide)).1
  simpa using this
 have hlt:ab<w.heap.size:=hm.1 ab ao hI
 have eg:∀ args w,(callFunc 43 args).run Tryz.prog w=.ok (.enter 43 args) w:=ub3s_ (uui_ Tryz.func43 (by kernel_rfl) (by kernel_rfl))
 have hz:∀ w,(zeroValue 9).run Tryz.prog w=.ok (encStr []) w:=Tryz.zeroValue9
 have hp:PredAt Tryz.prog 43 #[.pointer (some ⟨ab,ao,none⟩)] encStr (fun s=>eqS s adv.1) w:=fun W x hb=>ub94_ W ab ao adv.1 x ((hb.cell (p:=⟨ab,ao,none⟩) hlt).trans hcell)
 rcases StrAt.of ha with ⟨rfl,hx,rfl⟩ | ⟨b,cap,cells,rfl,rfl,hs⟩
 · have hx:xs=([]:List Str):=hx
   subst hx
   cases hem
 · have hn:=hs.len
   have hne:ab≠b:=fun e=>hs.noC ao (e▸hI)
   have hpo:PredOver Tryz.prog 43 #[.pointer (some ⟨ab,ao,none⟩)] encStr (fun s=>eqS s adv.1) b 0 (show List Str from xs).toArray.size w:=fun n os dk x _=>ub94_ _ ab ao adv.1 x (by
    unfold sortWorld
    rw [Sort.cell?_grow _ _ _ (by show ab<(putRow _ _ _ _ _).heap.size; rw [Sort.size_putRow]; exact hlt),cell?_putRow_other _ _ b 0 _ _ (Or.inl hne)]
    exact hcell)
   refine (Tryz.slices_DeleteFunc encStr (fun _=>rfl) (fun s=>eqS s adv.1) 43 _ eg [] hz b 0 cap (show List Str from xs).toArray w hp hpo hs.holds (by rw [List.size_toArray]; exact Nat.le_trans hn.2 (by decide)) (by rw [List.size_toArray]; exact hn.1)).mono fun e w' ⟨he,n,hw⟩=>?_
   have he:e=.returned (.slice (some ⟨b,0,none⟩) ((show List Str from xs).filter fun s=>!(eqS s adv.1)).length cap):=he
   have hw:w'=putRow encStr (Sort.ahead w n) b 0 (((show List Str from xs).filter fun s=>!(eqS s adv.1))++List.replicate ((show List Str from xs).length-((show List Str from xs).filter fun s=>!(eqS s adv.1)).length) ([]:Str)).toArray:=hw
   rw [← hr] at he hw
   obtain ⟨h1,h2,h3⟩:=hs.cut hm r (by rw [hr]; exact List.length_filter_le _ _) (by rw [hr]; exact ucdj_) hw
   exact ⟨_,[_],I,[b],he,rfl,rfl,h1,⟨_,rfl,h2⟩,by simp,fun j hj=>.inl hj,fun _=>h3⟩
end Go.Ev.Pv
