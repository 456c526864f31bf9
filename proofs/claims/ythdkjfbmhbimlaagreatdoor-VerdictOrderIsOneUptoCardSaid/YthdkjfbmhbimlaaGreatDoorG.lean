/-
  The contracts of Go's library that the law reaches, in the evaluator's terms.
-/
import Derived.Test.YthdkjfbmhbimlaaGreatDoorE4
import Derived.Below
import Derived.Test.YthdkjfbmhbimlaaGreatDoorD
import Derived.Shelf.SlSortCmp.WholeK
import Derived.Shelf.SlSortCmp.NoneTotal
import Derived.Lib.QuietBelow
import Derived.Shelf.SlIter.Nil
import Derived.Shelf.Strings.Builder1
import Derived.Shelf.Strings.Builder2
import Derived.Shelf.Strings.OnBuilder
import Derived.Shelf.Small.Utf8
import Derived.Shelf.Small.Bits
import Derived.Shelf.Small.Strs
import Derived.Shelf.Small.Wraps
import Derived.Shelf.Strings.BuilderF
import Derived.Shelf.Strings.BuilderK
import Derived.Shelf.Strings.BuilderRune
import Derived.Shelf.Utf8.RuneCount
import Derived.Shelf.Strconv.Atoi
import Derived.Shelf.Strconv.Itoa0
import Derived.Shelf.Strconv.Itoa1
import Derived.Shelf.LaysM
import Derived.Shelf.Strconv.Itoa2
import Derived.Shelf.Strconv.Itoa3
import Derived.Shelf.Strconv.AtoiErrFast
import Derived.Shelf.Strconv.ParseIntEmpty
import Derived.Shelf.Strconv.AtoiFail
import Derived.Shelf.Strconv.Clone
import Derived.Shelf.Strconv.SyntaxError
import Derived.Shelf.LaysC
import Derived.Shelf.Strconv.ToError
import Derived.Shelf.Strconv.Lower
import Derived.Shelf.Strconv.ParseUint10
import Derived.Shelf.Strconv.ParseUint10Empty
import Derived.Shelf.Strconv.ParseUint10Any
import Derived.Shelf.Strconv.ParseInt10
import Derived.Shelf.Strconv.AtoiLong
import Derived.Shelf.Strconv.AtoiInnerAll
import Derived.Shelf.Strconv.RangeError
import Derived.Shelf.Strconv.ToErrorRange
import Derived.Shelf.Strconv.AtoiAll
import Derived.Shelf.Strings.Search1
import Derived.Shelf.Strings.Search2
import Derived.Shelf.Strings.Search3
import Derived.Shelf.Strings.Cut
import Derived.Shelf.Strings.Count
import Derived.Shelf.Strings.Shaped
import Derived.Shelf.Sort.Plain
import Derived.Shelf.Strings.LastIndex
import Derived.Shelf.Strings.Prefix
import Derived.Shelf.Strings.Split
import Derived.Shelf.Strings.SplitShaped
import Derived.Shelf.Unicode.Latin
import Derived.Shelf.Unicode.Decode
import Derived.Shelf.Strings.RuneCount
import Derived.Shelf.Strings.Explode
import Derived.Shelf.Bits.Mul64
import Derived.Shelf.Strings.Repeat
import Derived.Shelf.Unicode.DecodeSlow
import Derived.Shelf.Unicode.DecodeAny
import Derived.Shelf.Strings.FieldsFuncAny
import Derived.Shelf.Unicode.CaseLookup
import Derived.Shelf.Unicode.CaseConvert
import Derived.Shelf.Unicode.CaseTo
import Derived.Shelf.Unicode.CaseLaid
import Derived.Shelf.Strings.MapAny
import Derived.Shelf.Strings.CaseAny
import Derived.Shelf.Strings.FieldsFuncGrows
import Derived.Ground.Names2Prog
import Derived.Shelf.Slices.CompactI
import Derived.Shelf.Slices.SearchI
import Derived.Shelf.Slices.Cells
import Derived.Shelf.Slices.In.SortNone
import Derived.Ground.SlsfProg
import Derived.Shelf.SlSortCmp.Insertion
import Derived.Shelf.SlSortCmp.Insertion1
import Derived.Test.YthdkjfbmhbimlaaGreatDoorProg
import Derived.Lib.AppendIntMem
import Derived.Shelf.SlGeneric
import Derived.Shelf.SlLaysF0
import Derived.Shelf.SortM.Plain
import Derived.Shelf.SortM.SortNone
import Derived.Ground.GgzProg
import Derived.Ground.SlgmProg
set_option linter.unusedVariables false
set_option linter.unusedSimpArgs false
set_option linter.unusedSectionVars false
set_option maxRecDepth 100000
namespace Go.Ev
variable [Pins]
open Go.RowKit
def imNew (I:Im) (X:Nat→Nat→Prop):Im:=⟨fun b o=>I.cell b o∨X b o,I.obj⟩
theorem After.below {w w':World} {I:Im} (hm:Mem w I) (hb:Below w.heap.size w w') {X:Nat→Nat→Prop} (hx:∀ b o,X b o→w.heap.size≤b∧b<w'.heap.size) :
 After (·∈([]:List Nat)) w I w' (imNew I X):=by
 have he:Ext w I w' (imNew I X):=⟨fun b o h=>⟨.inl h,by simp only [World.cell?,hb.block b (hm.1 b o h)]⟩,fun b h=>⟨h,hb.block b (hm.2.1 b h)⟩⟩
 exact ⟨he,fun b hlt _=>hb.block b hlt,hb.size,fun b o h=>h.imp id fun h=>.inl (hx b o h).1,fun b h=>.inl h,
  fun b o h=>h.elim (fun h=>Nat.lt_of_lt_of_le (hm.1 b o h) hb.size) fun h=>(hx b o h).2,fun b h=>Nat.lt_of_lt_of_le (hm.2.1 b h) hb.size,hb.os,hb.tape,hb.output,hm.2.2.ext he⟩
theorem FunOK.given {P:Program} {f:Nat} {sp:FSpec} (h:∀ (w:World) (I:Im) (v:TupR sp.ps) (args:List Value) (bs:List Nat),Mem w I→ShL P w I sp.ps v args bs→∀ r,sp.F v=some r→bs=[] ∧
 Calls P f args.toArray w fun e w'=>∃ rv vs X,e=.returned rv∧vs.length=sp.rs.length∧retIs vs rv∧Below w.heap.size w w'∧(sp.dr=true→w.drawn≤w'.drawn)∧(∀ b o,X b o→w.heap.size≤b∧b<w'.heap.size) ∧
  ShL P w' (imNew I X) (sp.rs++sp.ps.filter isBox) r (vs++ulq_ sp.ps args) []):FunOK P f sp:=by
 intro w I v args bs hm hsh hnd r hr
 obtain ⟨rfl,hc⟩:=h w I v args bs hm hsh r hr
 refine hc.mono fun e w' ⟨rv,vs,X,h1,h2,h3,h4,h7,h5,h6⟩=>?_
 exact ⟨rv,vs,imNew I X,[],h1,h2,h3,After.below hm h4 h5,h6,.nil,(fun b hb=>by cases hb),h7⟩
def noX:Nat→Nat→Prop:=fun _ _=>False
theorem ub1l_ {w w':World}:∀ b o,noX b o→w.heap.size≤b∧b<w'.heap.size:=fun _ _ h=>h.elim
section
variable {P:Program} {w:World} {I:Im}
theorem ubee_ {x:Str} {v:Value} (h:VRel w I .str x v):v=.string ⟨x.toArray⟩∧x.length≤281474976710656:=by
 obtain ⟨c,h1,h2,h3⟩:=h
 have h1:c=[v]:=h1
 rw [h1] at h2
 cases h2
 exact ⟨rfl,h3⟩
theorem ub9b_ {k:IntKind} {n:Int} {v:Value} (h:VRel w I (.int k) n v):v=.int k n∧und_ k n:=by
 obtain ⟨c,h1,h2,h3⟩:=h
 have h1:c=[v]:=h1
 rw [h1] at h2
 cases h2
 exact ⟨rfl,h3⟩
theorem ucdo_ {b:Bool} {v:Value} (h:VRel w I .bool b v):v=.bool b:=by
 obtain ⟨c,h1,h2⟩:=h
 have h1:c=[v]:=h1
 have h2:c=[.bool b]:=h2
 rw [h1] at h2
 cases h2
 rfl
theorem ubef_ {x:Str} (h:x.length≤281474976710656):VRel w I .str x (.string ⟨x.toArray⟩):=⟨_,rfl,rfl,h⟩
theorem ub26_ {k:IntKind} {n:Int} (h:und_ k n):VRel w I (.int k) n (.int k n):=⟨_,rfl,rfl,h⟩
theorem ub1m_ {b:Bool}:VRel w I .bool b (.bool b):=⟨_,rfl,rfl⟩
theorem in1 {a:Ty} {x:a.T} {args:List Value} {bs:List Nat} (h:ShL P w I [.val a] x args bs):bs=[]∧∃ v,args=[v]∧VRel w I a x v:=by
 obtain ⟨v,rfl,h1,rfl⟩:=h
 exact ⟨rfl,v,rfl,h1⟩
theorem in2 {a b:Ty} {x:a.T×b.T} {args:List Value} {bs:List Nat} (h:ShL P w I [.val a,.val b] x args bs):bs=[]∧∃ v u,args=[v,u]∧VRel w I a x.1 v∧VRel w I b x.2 u:=by
 obtain ⟨v,vs,b1,b2,rfl,rfl,⟨h1,rfl⟩,u,rfl,h2,rfl⟩:=h
 exact ⟨rfl,v,u,rfl,h1,h2⟩
theorem out1 {a:Ty} {x:a.T} {v:Value} (h:VRel w I a x v):ShL P w I [.val a] x [v] []:=⟨v,rfl,h,rfl⟩
theorem out2 {a b:Ty} {x:a.T×b.T} {v u:Value} (h:VRel w I a x.1 v) (k:VRel w I b x.2 u):ShL P w I [.val a,.val b] x [v,u] [] :=
 ⟨v,[u],[],[],rfl,rfl,⟨h,rfl⟩,u,rfl,k,rfl⟩
theorem out3 {a b c:Ty} {x:a.T×b.T×c.T} {v u t:Value} (h:VRel w I a x.1 v) (k:VRel w I b x.2.1 u) (m:VRel w I c x.2.2 t):ShL P w I [.val a,.val b,.val c] x [v,u,t] [] :=
 ⟨v,[u,t],[],[],rfl,rfl,⟨h,rfl⟩,u,[t],[],[],rfl,rfl,⟨k,rfl⟩,t,rfl,m,rfl⟩
end
theorem FunOK.flat1 {P:Program} {f:Nat} {sp:FSpec} {t:Ty} (hrs:sp.rs=[.val t]) (hps:sp.ps.filter isBox=[]) (hbv:∀ args,ulq_ sp.ps args=[])
 (h:∀ (w:World) (I:Im) (v:TupR sp.ps) (args:List Value) (bs:List Nat),Mem w I→ShL P w I sp.ps v args bs→∀ r,sp.F v=some r→bs=[] ∧
  ∃ rv,(∀ w' I',ShL P w' I' (sp.rs++sp.ps.filter isBox) r [rv] [])∧Calls P f args.toArray w fun e w'=>e=.returned rv∧Below w.heap.size w w'∧(sp.dr=true→w.drawn≤w'.drawn)):FunOK P f sp:=by
 refine FunOK.given fun w I v args bs hm hsh r hr=>?_
 obtain ⟨h1,rv,h2,h3⟩:=h w I v args bs hm hsh r hr
 refine ⟨h1,h3.mono fun e w' ⟨he,hb,hd⟩=>⟨rv,[rv],noX,he,by rw [hrs]; rfl,rfl,hb,hd,ub1l_,?_⟩⟩
 rw [hbv]
 exact h2 w' _
end Go.Ev
namespace Go.Ev.Pv
variable [Pins]
open Go.Proofs Go.RowKit Go.Sort Go.Shelf
theorem ub31_ {P:Program} {g:Nat} (h:ugs_ P g):∀ args w,(callFunc g args).run P w=.ok (.enter g args) w:=by
 obtain ⟨fn,c,h1,h2,h3⟩:=h
 intro args w
 have h2':fn.name≠"runtime.NumGoroutine" := by simpa using h2
 simp [callFunc,h1,h2',h3]
theorem ub32_ {α:Type} [Inhabited α] (enc:α→Value) (w:World) (blk off:Nat) (d:Array α) (k:Nat) (h:k≠blk):(putRow enc w blk off d).heap[k]? = w.heap[k]?:=by
 simp only [putRow,mapBlock,Array.getElem?_modify]
 rw [if_neg (fun e=>h e.symm)]
theorem ubxk_ {α:Type} [Inhabited α] (enc:α→Value) (w:World) (blk off:Nat) (d:Array α) {cs:Array Value} {el:TypeId} {fz:Nat×Nat} (h:w.heap[blk]? = some (.cells cs el fz)) :
 (putRow enc w blk off d).heap[blk]? = some (.cells (putCells enc off d cs) el fz):=by
 simp only [putRow,mapBlock,Array.getElem?_modify,h]
 simp [onCells]
theorem ubtd_ (w:World) (os:Array Go.Obj) (k:Nat) (h:k<w.heap.size):(grow w os).heap[k]? = w.heap[k]?:=by
 simp only [grow]
 rw [Array.getElem?_append_left h]
section
variable {P:Program} {w:World} {I:Im}
theorem ubte_ {α:Type} [Inhabited α] {enc:α→List Value} {k b:Nat} {n:Nat} {D:Array α} {os:Array Go.Obj} {cs:Array Value} {el:TypeId} {fz:Nat×Nat} (hb:w.heap[b]? = some (.cells cs el fz)) :
 (sortWorldK enc k w b 0 n D os).heap[b]? = some (.cells (putCells id 0 (flatK enc k D) cs) el fz)∧(∀ j,j≠b→j<w.heap.size→(sortWorldK enc k w b 0 n D os).heap[j]? = w.heap[j]?) ∧
 w.heap.size≤(sortWorldK enc k w b 0 n D os).heap.size∧(sortWorldK enc k w b 0 n D os).drawn=w.drawn+n:=by
 have hlt:b<w.heap.size:=(Array.getElem?_eq_some_iff.1 hb).1
 unfold sortWorldK putRowK
 refine ⟨?_,fun j hj hjl=>?_,?_,rfl⟩
 · rw [ubtd_ _ _ _ (by simpa using hlt)]
   exact ubxk_ id _ b 0 _ hb
 · rw [ubtd_ _ _ _ (by simpa using hjl)]
   exact ub32_ id _ b 0 _ j hj
 · simp
theorem ubp1_ {α:Type} [Inhabited α] {enc:α→List Value} {k b:Nat} {n:Nat} {D:Array α} {os:Array Go.Obj} {cs:Array Value} {el:TypeId} {fz:Nat×Nat} (hb:w.heap[b]? = some (.cells cs el fz))
 (hm:Mem w I) (hI:∀ o,¬ I.cell b o) (hO:¬ I.obj b):Ext w I (sortWorldK enc k w b 0 n D os) I∧Mem (sortWorldK enc k w b 0 n D os) I:=by
 obtain ⟨h1,h2,h3,h4⟩:=ubte_ (enc:=enc) (k:=k) (n:=n) (D:=D) (os:=os) hb
 have hx:Ext w I (sortWorldK enc k w b 0 n D os) I:=⟨fun j o h=>⟨h,by simp only [World.cell?,h2 j (fun e=>hI o (e▸h)) (hm.1 j o h)]⟩,fun j h=>⟨h,h2 j (fun e=>hO (e▸h)) (hm.2.1 j h)⟩⟩
 exact ⟨hx,fun j o h=>Nat.lt_of_lt_of_le (hm.1 j o h) h3,fun j h=>Nat.lt_of_lt_of_le (hm.2.1 j h) h3,hm.2.2.ext hx⟩
theorem ub6v_ {ρ:Ren} {f el:Nat} {p:Ty} (L:SlLaysF0.n6 P ρ) (hf:ρ.f 6=f) (aE:∀ w,(isAgg (ρ.t 24)).run P w=.ok true w) (zE:∀ w,(Go.sizeOf (ρ.t 24)).run P w=.ok p.sz w) (hp:0<p.sz) :
 FunOK P f ⟨[.io el (.agg p),.hof true (.prod (.agg p) (.agg p)) (.int .i64)],[],fun v=>ubuo_ v.1 v.2,true⟩:=by
 subst hf
 intro w I v args bs hm hsh hnd r hr
 obtain ⟨v1,vs,b1,b2,rfl,rfl,h1,v2,rfl,rfl,g,lb,hv2,hent,hof⟩:=hsh
 obtain rfl:=List.singleton_inj.1 hv2
 obtain ⟨xs,F⟩:List p.T×(p.T×p.T→Option Int):=v
 have hr:ubuo_ xs F=some r:=hr
 have none_:∀ (a:Option Addr) (cap:Nat),v1=.slice a 0 cap→xs=[] →
  Calls P (ρ.f 6) #[v1,.func (.func g) #[] lb] w fun e w'=>∃ rv vs I' bs',e=.returned rv∧vs.length=0∧retIs vs rv∧After (·∈b1++[]) w I w' I' ∧
   ShL P w' I' [.io el (.agg p)] r (vs++[v1]) bs'∧bs'.Nodup∧(∀ b∈bs',b∈b1++[]∨w.heap.size≤b)∧(true=true→w.drawn≤w'.drawn):=by
  intro a cap hv hxs
  subst hxs
  have hr:r=([]:List p.T):=by
   have:ubuo_ ([]:List p.T) F=some []:=rfl
   rw [this] at hr; cases hr; rfl
  subst hv
  refine (AnyF.slices_SortFunc_none L a cap _ w).mono fun e w' ⟨he,hw⟩=>?_
  subst hw
  rw [List.append_nil] at hnd ⊢
  refine ⟨_,[],I,b1,he,rfl,rfl,After.refl hm,⟨_,rfl,?_⟩,hnd,fun b hb=>.inl hb,fun _=>Nat.le_refl _⟩
  rw [hr]; exact h1
 rcases h1 with ⟨e1,e2,rfl⟩ | ⟨b,cap,cells,e1,rfl,hl,⟨fz,hb,hfz⟩,hcs,hrow,hI,_,hO⟩
 · exact none_ none 0 (List.singleton_inj.1 e1) e2
 · have e1:v1=.slice (some ⟨b,0,none⟩) xs.length cap:=List.singleton_inj.1 e1
   by_cases h0:0<xs.length
   · subst e1
     unfold ubuo_ at hr
     rw [dif_pos h0] at hr
     obtain ⟨⟨hs1,hs2,hs3,hs4⟩,hr⟩:=u5l_ hr
     have hr:(ubiy_ xs F h0).toList.map xs.get=r:=Option.some.inj hr
     letI:Inhabited (Fin xs.length):=⟨⟨0,h0⟩⟩
     let k:=p.sz
     have hcs:cells.size=cap*k:=hcs
     have hcap:xs.length≤cap:=hl.1
     have hmul:∀ i,i<xs.length→i*k+k≤cells.size:=by
      intro i hi
      have:(i+1)*k≤cap*k:=Nat.mul_le_mul_right k (by omega)
      rw [hcs]; rw [Nat.add_mul] at this; omega
     let enc:Fin xs.length→List Value:=fun i=>(cells.toList.drop (i.val*k)).take k
     have hrel:∀ i:Fin xs.length,Rel w I (.agg p) (xs.get i) (enc i):=fun i=>hrow i.val (xs.get i) (List.getElem?_eq_getElem i.isLt)
     have hk:∀ x,(enc x).length=k:=by
      intro x
      have:=hmul x.val x.isLt
      simp only [enc,List.length_take,List.length_drop,Array.length_toList]
      omega
     have hone:∀ x,∀ v∈enc x,v.oneCell'=true:=fun x=>(hrel x).oneCell
     have hget:∀ (i:Fin xs.length) (c:Nat),c<k→(enc i)[c]! = cells[i.val*k+c]!:=by
      intro i c hc
      have h2:=hmul i.val i.isLt
      have hlt:i.val*k+c<cells.size:=by omega
      rw [getElem!_pos (enc i) c (by rw [hk]; exact hc),getElem!_pos cells _ hlt]
      simp [enc]
     have hO':SWO (ltOf (cfAt xs F)):=⟨fun x=>hs2 x,fun x y z=>hs3 x y z,fun x y z=>hs4 x y z⟩
     have hcmp:CmpLays P g lb enc k (cfAt xs F) b 0 xs.length w:=by
      intro m os dk _ x y
      obtain ⟨hx,hm'⟩:=ubp1_ (enc:=enc) (k:=k) (n:=m) (D:=dk) (os:=os) hb hm (hI rfl) hO
      obtain ⟨c,hc⟩:=Option.isSome_iff_exists.1 (hs1 x y)
      have:=hof _ I hx hm' (xs.get x,xs.get y) [.agg (enc x).toArray,.agg (enc y).toArray]
       ⟨_,_,rfl,⟨enc x,rfl,(hrel x).ext hx⟩,_,rfl,enc y,rfl,(hrel y).ext hx⟩ c hc
      refine this.mono fun e w'' ⟨rv,I'',q1,q2,⟨c',q3,q4,_⟩,q5⟩=>?_
      have q3:c'=[rv]:=q3
      rw [q3] at q4
      have q4:rv=.int .i64 c:=List.singleton_inj.1 q4
      refine ⟨?_,?_⟩
      · rw [q1,q4]; unfold cfAt; rw [hc]; rfl
      · obtain ⟨⟨d,os'⟩,hw⟩:=regrown_of_below (w:=sortWorldK enc k w b 0 m dk os) (w':=w'') ⟨q2.os,q2.tape,q2.output,q2.size,fun j hj=>q2.heap j hj fun h=>h⟩
        have hd:=q5 rfl
        refine ⟨d-(sortWorldK enc k w b 0 m dk os).drawn,os',?_⟩
        have hdd:w''.drawn=d:=by rw [hw]; rfl
        rw [hw]
        simp only [grow,redrawn,World.drewN]
        congr 1
        omega
     have hds:(Array.ofFn (id:Fin xs.length→Fin xs.length)).size=xs.length:=by simp
     have hdi:∀ (j:Nat) (hj:j<xs.length),(Array.ofFn (id:Fin xs.length→Fin xs.length))[j]! = ⟨j,hj⟩:=by
      intro j hj
      rw [getElem!_pos _ j (by simpa using hj)]
      simp
     have hdm:∀ j,j<xs.length*k→j / k<xs.length∧j % k<k∧j / k*k+j % k=j:=fun j hj =>
      ⟨(Nat.div_lt_iff_lt_mul hp).2 hj,Nat.mod_lt _ hp,Nat.div_add_mod' j k⟩
     have hH:HoldsK enc k w b 0 (Array.ofFn (id:Fin xs.length→Fin xs.length)):=by
      intro j hj
      rw [size_flatK,hds] at hj
      obtain ⟨d1,d2,d3⟩:=hdm j hj
      rw [get_flatK _ _ _ _ (by rw [hds]; exact hj),hdi _ d1,hget _ _ d2,d3]
      have hjc:j<cells.size:=by
       have:=hmul _ d1
       have:j<j / k*k+k:=by omega
       omega
      refine ⟨?_,?_⟩
      · simp only [World.cell?,hb,Nat.zero_add,id]
        rw [getElem!_pos cells j hjc]
        simp [hjc]
      · simp only [World.frozen?,hb,Nat.zero_add]
        rcases hfz with h | h
        · simp; omega
        · simp; omega
     have hblk:b<w.heap.size:=(Array.getElem?_eq_some_iff.1 hb).1
     have hsz:(Array.ofFn (id:Fin xs.length→Fin xs.length)).size<4611686018427387904:=by rw [hds]; have:xs.length≤281474976710656:=hl.2; omega
     have hcon:=AnyQ.slices_SortFunc_eq L k aE zE enc hk hone (cfAt xs F) hO' g lb b 0 cap (Array.ofFn id) w (ub31_ hent) (by rw [hds]; exact hcmp) hH hblk hsz
     have hsorts:=pdq_sorts (ltOf (cfAt xs F)) hO' (Array.ofFn (id:Fin xs.length→Fin xs.length)) 0 xs.length (Lib.bitLen xs.length) true true (Nat.zero_le _) (by rw [hds]; exact Nat.le_refl _) (.inl rfl)
     rw [hds] at hcon
     have hD:pdq (ltOf (cfAt xs F)) (Array.ofFn (id:Fin xs.length→Fin xs.length)) 0 xs.length (Lib.bitLen xs.length) true true=ubiy_ xs F h0:=(ub21_ xs F h0).symm
     rw [hD] at hcon hsorts
     have hDs:(ubiy_ xs F h0).size=xs.length:=by have:=hsorts.1.1; rw [hds] at this; exact this
     refine hcon.mono fun e w' ⟨he,n,os,hw⟩=>?_
     obtain ⟨a1,a2,a3,a4⟩:=ubte_ (enc:=enc) (k:=k) (n:=n) (D:=ubiy_ xs F h0) (os:=os) hb
     obtain ⟨x1,x2⟩:=ubp1_ (enc:=enc) (k:=k) (n:=n) (D:=ubiy_ xs F h0) (os:=os) hb hm (hI rfl) hO
     rw [← hw] at a1 a2 a3 a4 x1 x2
     have hlen:(show List p.T from r).length=xs.length:=by
      have:((ubiy_ xs F h0).toList.map xs.get).length=xs.length:=by rw [List.length_map,Array.length_toList,hDs]
      rw [hr] at this; exact this
     have hpc:(putCells id 0 (flatK enc k (ubiy_ xs F h0)) cells).size=cells.size:=by simp [putCells]
     refine ⟨_,[],I,[b],he,rfl,rfl,⟨x1,fun j hj hn=>a2 j (fun e=>hn (by rw [e]; simp)) hj,a3,fun _ _ h=>.inl h,fun _ h=>.inl h,x2.1,x2.2.1,by rw [hw]; rfl,by rw [hw]; rfl,by rw [hw]; rfl,x2.2.2⟩,?_,by simp,fun j hj=>.inl (by simpa using hj),fun _=>by rw [a4]; omega⟩
     refine ⟨_,rfl,.inr ⟨b,cap,_,?_,rfl,?_,⟨fz,a1,by rw [hpc]; exact hfz⟩,by rw [hpc]; exact hcs,?_,hI,(fun h=>by cases h),hO⟩⟩
     · exact congrArg (fun n=>[Value.slice (some ⟨b,0,none⟩) n cap]) hlen.symm
     · have:LenOK xs.length cap:=hl
       rw [← hlen] at this; exact this
     · intro i y hy
       have hy:((ubiy_ xs F h0).toList.map xs.get)[i]? = some y:=by rw [hr]; exact hy
       rw [List.getElem?_map] at hy
       cases hi:(ubiy_ xs F h0).toList[i]? with
       | none=>rw [hi] at hy; cases hy
       | some q =>
         rw [hi] at hy
         cases hy
         have hil:i<xs.length:=by have:=(List.getElem?_eq_some_iff.1 hi).1; rw [Array.length_toList,hDs] at this; exact this
         have hDi:(ubiy_ xs F h0)[i]! = q:=by
          have:=(List.getElem?_eq_some_iff.1 hi).2
          rw [getElem!_pos _ i (by rw [hDs]; exact hil)]
          simpa using this
         have heq:((putCells id 0 (flatK enc k (ubiy_ xs F h0)) cells).toList.drop (i*k)).take k=enc q:=by
          apply List.ext_getElem?
          intro c
          by_cases hc:c<k
          · have hlt:i*k+c<cells.size:=by have:=hmul i hil; omega
            have hlt2:i*k+c<xs.length*k:=by
             have:(i+1)*k≤xs.length*k:=Nat.mul_le_mul_right k (by omega)
             rw [Nat.add_mul] at this; omega
            have hdiv:(i*k+c) / k=i:=by rw [Nat.mul_comm,Nat.mul_add_div hp,Nat.div_eq_of_lt hc]; omega
            have hmod:(i*k+c) % k=c:=by rw [Nat.mul_comm,Nat.mul_add_mod,Nat.mod_eq_of_lt hc]
            rw [List.getElem?_take,if_pos hc,List.getElem?_drop,Array.getElem?_toList]
            simp only [putCells,Array.getElem?_mapIdx]
            rw [Array.getElem?_eq_getElem hlt]
            simp only [Option.map_some]
            rw [if_pos ⟨Nat.zero_le _,by rw [size_flatK,hDs]; omega⟩,Nat.sub_zero,get_flatK _ _ _ _ (by rw [hDs]; exact hlt2),hdiv,hmod,hDi]
            rw [getElem!_pos (enc q) c (by rw [hk]; exact hc)]
            simp [hk,hc]
          · rw [List.getElem?_eq_none (by simp; omega),List.getElem?_eq_none (by rw [hk]; omega)]
         rw [show (Ty.agg p).sz=k from rfl,heq]
         exact (hrel q).ext x1
   · have hx:xs=[]:=List.eq_nil_of_length_eq_zero (by omega)
     exact none_ (some ⟨b,0,none⟩) cap (by rw [e1,hx]; rfl) hx
end
end Go.Ev.Pv
namespace Go.Ev.Pv
variable [Pins]
open Go.Proofs Go.RowKit Go.Sort Go.Shelf Go.Maps Go.MapKept
section
variable {P:Program} {w:World} {I:Im} {b0:Nat}
end
end Go.Ev.Pv
namespace Go.Proofs
open Go.Shelf
def Tryz.lays169_ren:Go.Shelf.Ren:=⟨fun | 169=>193 | n=>n,fun | 70=>326 | 9=>9 | 0=>0 | 72=>329 | 37=>327 | 127=>397 | 3=>3 | 5=>5 | n=>n,fun | n=>n⟩
theorem Tryz.lays169:Go.Proofs.Lays.n169 Tryz.prog Tryz.lays169_ren:={
 mixed:=by kernel_rfl
 f169:=Tryz.func193.trans (congrArg some (by kernel_rfl))
 t0:=Tryz.underlying0
 a0:=Tryz.isAgg0
 z0:=Tryz.sizeOf0
 v0:=Tryz.zeroValue0
 t3:=Tryz.underlying3
 a3:=Tryz.isAgg3
 z3:=Tryz.sizeOf3
 v3:=Tryz.zeroValue3
 t9:=Tryz.underlying9
 a9:=Tryz.isAgg9
 z9:=Tryz.sizeOf9
 v9:=Tryz.zeroValue9
 t37:=Tryz.underlying327
 a37:=Tryz.isAgg327
 z37:=Tryz.sizeOf327
 v37:=Tryz.zeroValue327
 t70:=Tryz.underlying326
 a70:=Tryz.isAgg326
 z70:=Tryz.sizeOf326
 v70:=Tryz.zeroValue326
 t72:=Tryz.underlying329
 a72:=Tryz.isAgg329
 z72:=Tryz.sizeOf329
 v72:=Tryz.zeroValue329
 t127:=Tryz.underlying397
 a127:=Tryz.isAgg397
 z127:=Tryz.sizeOf397
 v127:=Tryz.zeroValue397 }
theorem Tryz.Builder_Extra_169:Builder.Extra Tryz.prog Tryz.lays169_ren:={
 sizeBuilder:=by kernel_rfl
 liesBuilder:=by kernel_rfl
 t5:=Tryz.underlying5
 a5:=Tryz.isAgg5
 z5:=Tryz.sizeOf5
 v5:=Tryz.zeroValue5
 infoByte:=by kernel_rfl
 cellsByte:=by kernel_rfl
 sizeByte:=by kernel_rfl
 neB5:=by decide }
def Tryz.lays159_ren:Go.Shelf.Ren:=⟨fun | 159=>259 | 165=>242 | 166=>192 | 167=>191 | 169=>193 | 230=>319 | 204=>320 | 240=>243 | 241=>294 | 197=>344 | 118=>375 | 168=>376 | 270=>377 | 262=>378 | 276=>295 | 277=>347 | 260=>385 | 242=>404 | 313=>405 | 278=>421 | 274=>422 | 275=>423 | n=>n,fun | 9=>9 | 4=>4 | 3=>3 | 5=>5 | 72=>329 | 0=>0 | 76=>334 | 75=>332 | 107=>482 | 70=>326 | 20=>20 | 37=>327 | 127=>397 | 21=>21 | 105=>501 | 164=>452 | 162=>543 | 203=>541 | 119=>545 | 46=>115 | 139=>548 | 138=>547 | 51=>140 | 160=>563 | 208=>581 | 206=>579 | 80=>183 | n=>n,fun | 13=>1 | 3=>2 | 4=>3 | n=>n⟩
theorem Tryz.lays159:Go.Proofs.Lays.n159 Tryz.prog Tryz.lays159_ren:={
 mixed:=by kernel_rfl
 f118:=Tryz.func375.trans (congrArg some (by kernel_rfl))
 f159:=Tryz.func259.trans (congrArg some (by kernel_rfl))
 f165:=Tryz.func242.trans (congrArg some (by kernel_rfl))
 f166:=Tryz.func192.trans (congrArg some (by kernel_rfl))
 f167:=Tryz.func191.trans (congrArg some (by kernel_rfl))
 f168:=Tryz.func376.trans (congrArg some (by kernel_rfl))
 f169:=Tryz.func193.trans (congrArg some (by kernel_rfl))
 f197:=Tryz.func344.trans (congrArg some (by kernel_rfl))
 f204:=Tryz.func320.trans (congrArg some (by kernel_rfl))
 f230:=Tryz.func319.trans (congrArg some (by kernel_rfl))
 f240:=Tryz.func243.trans (congrArg some (by kernel_rfl))
 f241:=Tryz.func294.trans (congrArg some (by kernel_rfl))
 f242:=Tryz.func404.trans (congrArg some (by kernel_rfl))
 f260:=Tryz.func385.trans (congrArg some (by kernel_rfl))
 f262:=Tryz.func378.trans (congrArg some (by kernel_rfl))
 f270:=Tryz.func377.trans (congrArg some (by kernel_rfl))
 f274:=Tryz.func422.trans (congrArg some (by kernel_rfl))
 f275:=Tryz.func423.trans (congrArg some (by kernel_rfl))
 f276:=Tryz.func295.trans (congrArg some (by kernel_rfl))
 f277:=Tryz.func347.trans (congrArg some (by kernel_rfl))
 f278:=Tryz.func421.trans (congrArg some (by kernel_rfl))
 f313:=Tryz.func405.trans (congrArg some (by kernel_rfl))
 t0:=Tryz.underlying0
 a0:=Tryz.isAgg0
 z0:=Tryz.sizeOf0
 v0:=Tryz.zeroValue0
 t3:=Tryz.underlying3
 a3:=Tryz.isAgg3
 z3:=Tryz.sizeOf3
 v3:=Tryz.zeroValue3
 t4:=Tryz.underlying4
 a4:=Tryz.isAgg4
 z4:=Tryz.sizeOf4
 v4:=Tryz.zeroValue4
 t5:=Tryz.underlying5
 a5:=Tryz.isAgg5
 z5:=Tryz.sizeOf5
 v5:=Tryz.zeroValue5
 t9:=Tryz.underlying9
 a9:=Tryz.isAgg9
 z9:=Tryz.sizeOf9
 v9:=Tryz.zeroValue9
 t20:=Tryz.underlying20
 a20:=Tryz.isAgg20
 z20:=Tryz.sizeOf20
 v20:=Tryz.zeroValue20
 t21:=Tryz.underlying21
 a21:=Tryz.isAgg21
 z21:=Tryz.sizeOf21
 v21:=Tryz.zeroValue21
 t37:=Tryz.underlying327
 a37:=Tryz.isAgg327
 z37:=Tryz.sizeOf327
 v37:=Tryz.zeroValue327
 t46:=Tryz.underlying115
 a46:=Tryz.isAgg115
 z46:=Tryz.sizeOf115
 v46:=Tryz.zeroValue115
 t51:=Tryz.underlying140
 a51:=Tryz.isAgg140
 z51:=Tryz.sizeOf140
 v51:=Tryz.zeroValue140
 t70:=Tryz.underlying326
 a70:=Tryz.isAgg326
 z70:=Tryz.sizeOf326
 v70:=Tryz.zeroValue326
 t72:=Tryz.underlying329
 a72:=Tryz.isAgg329
 z72:=Tryz.sizeOf329
 v72:=Tryz.zeroValue329
 t75:=Tryz.underlying332
 a75:=Tryz.isAgg332
 z75:=Tryz.sizeOf332
 v75:=Tryz.zeroValue332
 t76:=Tryz.underlying334
 a76:=Tryz.isAgg334
 z76:=Tryz.sizeOf334
 v76:=Tryz.zeroValue334
 t105:=Tryz.underlying501
 a105:=Tryz.isAgg501
 z105:=Tryz.sizeOf501
 v105:=Tryz.zeroValue501
 t107:=Tryz.underlying482
 a107:=Tryz.isAgg482
 z107:=Tryz.sizeOf482
 v107:=Tryz.zeroValue482
 t119:=Tryz.underlying545
 a119:=Tryz.isAgg545
 z119:=Tryz.sizeOf545
 t127:=Tryz.underlying397
 a127:=Tryz.isAgg397
 z127:=Tryz.sizeOf397
 v127:=Tryz.zeroValue397
 t138:=Tryz.underlying547
 a138:=Tryz.isAgg547
 z138:=Tryz.sizeOf547
 v138:=Tryz.zeroValue547
 t139:=Tryz.underlying548
 a139:=Tryz.isAgg548
 z139:=Tryz.sizeOf548
 v139:=Tryz.zeroValue548
 t160:=Tryz.underlying563
 a160:=Tryz.isAgg563
 z160:=Tryz.sizeOf563
 v160:=Tryz.zeroValue563
 t162:=Tryz.underlying543
 a162:=Tryz.isAgg543
 z162:=Tryz.sizeOf543
 v162:=Tryz.zeroValue543
 t164:=Tryz.underlying452
 a164:=Tryz.isAgg452
 z164:=Tryz.sizeOf452
 v164:=Tryz.zeroValue452
 t203:=Tryz.underlying541
 a203:=Tryz.isAgg541
 z203:=Tryz.sizeOf541
 v203:=Tryz.zeroValue541
 t206:=Tryz.underlying579
 a206:=Tryz.isAgg579
 z206:=Tryz.sizeOf579
 v206:=Tryz.zeroValue579
 t208:=Tryz.underlying581
 a208:=Tryz.isAgg581
 z208:=Tryz.sizeOf581
 v208:=Tryz.zeroValue581
 g3:=by kernel_rfl
 g4:=by kernel_rfl
 g13:=by kernel_rfl }
theorem Tryz.Builder_Extra_159:Builder.Extra Tryz.prog Tryz.lays159_ren:={
 sizeBuilder:=by kernel_rfl
 liesBuilder:=by kernel_rfl
 t5:=Tryz.underlying5
 a5:=Tryz.isAgg5
 z5:=Tryz.sizeOf5
 v5:=Tryz.zeroValue5
 infoByte:=by kernel_rfl
 cellsByte:=by kernel_rfl
 sizeByte:=by kernel_rfl
 neB5:=by decide }
def Tryz.lays156_ren:Go.Shelf.Ren:=⟨fun | 156=>189 | 165=>242 | 166=>192 | 169=>193 | 240=>243 | 241=>294 | 276=>295 | 277=>347 | n=>n,fun | 31=>23 | 9=>9 | 3=>3 | 4=>4 | 0=>0 | 20=>20 | 72=>329 | 76=>334 | 70=>326 | 37=>327 | 75=>332 | 127=>397 | 164=>452 | 5=>5 | 80=>183 | n=>n,fun | n=>n⟩
theorem Tryz.lays156:Go.Proofs.Lays.n156 Tryz.prog Tryz.lays156_ren:={
 mixed:=by kernel_rfl
 f156:=Tryz.func189.trans (congrArg some (by kernel_rfl))
 f165:=Tryz.func242.trans (congrArg some (by kernel_rfl))
 f166:=Tryz.func192.trans (congrArg some (by kernel_rfl))
 f169:=Tryz.func193.trans (congrArg some (by kernel_rfl))
 f240:=Tryz.func243.trans (congrArg some (by kernel_rfl))
 f241:=Tryz.func294.trans (congrArg some (by kernel_rfl))
 f276:=Tryz.func295.trans (congrArg some (by kernel_rfl))
 f277:=Tryz.func347.trans (congrArg some (by kernel_rfl))
 t0:=Tryz.underlying0
 a0:=Tryz.isAgg0
 z0:=Tryz.sizeOf0
 v0:=Tryz.zeroValue0
 t3:=Tryz.underlying3
 a3:=Tryz.isAgg3
 z3:=Tryz.sizeOf3
 v3:=Tryz.zeroValue3
 t4:=Tryz.underlying4
 a4:=Tryz.isAgg4
 z4:=Tryz.sizeOf4
 v4:=Tryz.zeroValue4
 t9:=Tryz.underlying9
 a9:=Tryz.isAgg9
 z9:=Tryz.sizeOf9
 v9:=Tryz.zeroValue9
 t20:=Tryz.underlying20
 a20:=Tryz.isAgg20
 z20:=Tryz.sizeOf20
 v20:=Tryz.zeroValue20
 t31:=Tryz.underlying23
 a31:=Tryz.isAgg23
 z31:=Tryz.sizeOf23
 v31:=Tryz.zeroValue23
 t37:=Tryz.underlying327
 a37:=Tryz.isAgg327
 z37:=Tryz.sizeOf327
 v37:=Tryz.zeroValue327
 t70:=Tryz.underlying326
 a70:=Tryz.isAgg326
 z70:=Tryz.sizeOf326
 v70:=Tryz.zeroValue326
 t72:=Tryz.underlying329
 a72:=Tryz.isAgg329
 z72:=Tryz.sizeOf329
 v72:=Tryz.zeroValue329
 t75:=Tryz.underlying332
 a75:=Tryz.isAgg332
 z75:=Tryz.sizeOf332
 v75:=Tryz.zeroValue332
 t76:=Tryz.underlying334
 a76:=Tryz.isAgg334
 z76:=Tryz.sizeOf334
 v76:=Tryz.zeroValue334
 t127:=Tryz.underlying397
 a127:=Tryz.isAgg397
 z127:=Tryz.sizeOf397
 v127:=Tryz.zeroValue397
 t164:=Tryz.underlying452
 a164:=Tryz.isAgg452
 z164:=Tryz.sizeOf452
 v164:=Tryz.zeroValue452 }
theorem Tryz.Builder_Extra_156:Builder.Extra Tryz.prog Tryz.lays156_ren:={
 sizeBuilder:=by kernel_rfl
 liesBuilder:=by kernel_rfl
 t5:=Tryz.underlying5
 a5:=Tryz.isAgg5
 z5:=Tryz.sizeOf5
 v5:=Tryz.zeroValue5
 infoByte:=by kernel_rfl
 cellsByte:=by kernel_rfl
 sizeByte:=by kernel_rfl
 neB5:=by decide }
open Go.RowKit in
theorem Tryz.strings_Join_none (a:Option Addr) (c:Nat) (sep:ByteArray) (w:World) :
 Calls Tryz.prog 189 #[.slice a 0 c,.string sep] w fun e w'=>e=.returned (.string ⟨#[]⟩)∧w'=w:=Any.strings_Join_none Tryz.lays156 Tryz.Builder_Extra_156 a c sep w
open Go.RowKit in
theorem Tryz.strings_Join (bk o c:Nat) (xs:List ByteArray) (sep:ByteArray) (w:World) (hcells:∀ (j:Nat) x,xs[j]? = some x→w.cell? ⟨bk,o+j,none⟩=some (.string x)) (hbk:bk<w.heap.size) (hN:xs.length≤140737488355328) (hcap:xs.length≤c) (hlen:(Lib.join (xs.map (·.data.toList)) sep.data.toList).length≤140737488355328) :
 Calls Tryz.prog 189 #[.slice (some ⟨bk,o,none⟩) xs.length c,.string sep] w fun e w'=>e=.returned (.string ⟨(Lib.join (xs.map (·.data.toList)) sep.data.toList).toArray⟩)∧Below w.heap.size w w':=Any.strings_Join Tryz.lays156 Tryz.Builder_Extra_156 bk o c xs sep w hcells hbk hN hcap hlen
def Tryz.lays137_ren:Go.Shelf.Ren:=⟨fun | 137=>142 | 217=>187 | 266=>240 | n=>n,fun | 9=>9 | 5=>5 | 3=>3 | n=>n,fun | n=>n⟩
theorem Tryz.lays137:Go.Proofs.Lays.n137 Tryz.prog Tryz.lays137_ren:={
 mixed:=by kernel_rfl
 f137:=Tryz.func142.trans (congrArg some (by kernel_rfl))
 f217:=Tryz.func187.trans (congrArg some (by kernel_rfl))
 f266:=Tryz.func240.trans (congrArg some (by kernel_rfl))
 t3:=Tryz.underlying3
 a3:=Tryz.isAgg3
 z3:=Tryz.sizeOf3
 v3:=Tryz.zeroValue3
 t5:=Tryz.underlying5
 a5:=Tryz.isAgg5
 z5:=Tryz.sizeOf5
 v5:=Tryz.zeroValue5
 t9:=Tryz.underlying9
 a9:=Tryz.isAgg9
 z9:=Tryz.sizeOf9
 v9:=Tryz.zeroValue9 }
open Go.RowKit in
theorem Tryz.strings_IndexByte (s:ByteArray) (c:Int) (w:World) :
 Calls Tryz.prog 142 #[.string s,.int .u8 c] w fun e w'=>e=.returned (.int .i64 (Lib.indexByte s.data.toList c.toNat.toUInt8))∧w'=w:=Any.strings_IndexByte Tryz.lays137 s c w
def Tryz.lays103_ren:Go.Shelf.Ren:=⟨fun | 103=>317 | 210=>371 | 206=>342 | n=>n,fun | 9=>9 | 4=>4 | 24=>375 | 3=>3 | n=>n,fun | n=>n⟩
theorem Tryz.lays103:Go.Proofs.Lays.n103 Tryz.prog Tryz.lays103_ren:={
 mixed:=by kernel_rfl
 f103:=Tryz.func317.trans (congrArg some (by kernel_rfl))
 f206:=Tryz.func342.trans (congrArg some (by kernel_rfl))
 f210:=Tryz.func371.trans (congrArg some (by kernel_rfl))
 t3:=Tryz.underlying3
 a3:=Tryz.isAgg3
 z3:=Tryz.sizeOf3
 v3:=Tryz.zeroValue3
 t4:=Tryz.underlying4
 a4:=Tryz.isAgg4
 z4:=Tryz.sizeOf4
 v4:=Tryz.zeroValue4
 t9:=Tryz.underlying9
 a9:=Tryz.isAgg9
 z9:=Tryz.sizeOf9
 v9:=Tryz.zeroValue9
 t24:=Tryz.underlying375
 a24:=Tryz.isAgg375
 z24:=Tryz.sizeOf375
 v24:=Tryz.zeroValue375 }
open Go.RowKit in
theorem Tryz.strings_CutPrefix (s p:ByteArray) (w:World) :
 Calls Tryz.prog 317 #[.string s,.string p] w fun e w'=>e=.returned (.tuple #[.string ⟨(Lib.trimPrefix s.data.toList p.data.toList).toArray⟩,.bool (Lib.hasPrefix s.data.toList p.data.toList)])∧w'=w:=Any.strings_CutPrefix Tryz.lays103 s p w
def Tryz.laysM171_ren:Go.Shelf.Ren:=⟨fun | 171=>361 | 243=>397 | 246=>414 | 283=>427 | 284=>428 | 285=>429 | 286=>430 | 129=>69 | 317=>436 | 318=>437 | 319=>438 | 320=>439 | 337=>442 | 338=>443 | n=>n,fun | 3=>3 | 9=>9 | 2=>2 | 4=>4 | 171=>569 | 0=>0 | 53=>142 | 37=>327 | 5=>5 | 173=>571 | 212=>583 | 51=>140 | 20=>20 | 213=>584 | 46=>115 | 232=>589 | 233=>590 | n=>n,fun | 17=>6 | 18=>7 | 19=>8 | n=>n⟩
theorem Tryz.laysM171:Go.Proofs.LaysM.n171 Tryz.prog Tryz.laysM171_ren:={
 mixed:=by kernel_rfl
 f129:=Tryz.func69.trans (congrArg some (by kernel_rfl))
 f171:=Tryz.func361.trans (congrArg some (by kernel_rfl))
 f243:=Tryz.func397.trans (congrArg some (by kernel_rfl))
 f246:=Tryz.func414.trans (congrArg some (by kernel_rfl))
 f283:=Tryz.func427.trans (congrArg some (by kernel_rfl))
 f284:=Tryz.func428.trans (congrArg some (by kernel_rfl))
 f285:=Tryz.func429.trans (congrArg some (by kernel_rfl))
 f286:=Tryz.func430.trans (congrArg some (by kernel_rfl))
 f317:=Tryz.func436.trans (congrArg some (by kernel_rfl))
 f318:=Tryz.func437.trans (congrArg some (by kernel_rfl))
 f319:=Tryz.func438.trans (congrArg some (by kernel_rfl))
 f320:=Tryz.func439.trans (congrArg some (by kernel_rfl))
 f337:=Tryz.func442.trans (congrArg some (by kernel_rfl))
 f338:=Tryz.func443.trans (congrArg some (by kernel_rfl))
 t0:=Tryz.underlying0
 a0:=Tryz.isAgg0
 z0:=Tryz.sizeOf0
 v0:=Tryz.zeroValue0
 t2:=Tryz.underlying2
 a2:=Tryz.isAgg2
 z2:=Tryz.sizeOf2
 v2:=Tryz.zeroValue2
 t3:=Tryz.underlying3
 a3:=Tryz.isAgg3
 z3:=Tryz.sizeOf3
 v3:=Tryz.zeroValue3
 t4:=Tryz.underlying4
 a4:=Tryz.isAgg4
 z4:=Tryz.sizeOf4
 v4:=Tryz.zeroValue4
 t5:=Tryz.underlying5
 a5:=Tryz.isAgg5
 z5:=Tryz.sizeOf5
 v5:=Tryz.zeroValue5
 t9:=Tryz.underlying9
 a9:=Tryz.isAgg9
 z9:=Tryz.sizeOf9
 v9:=Tryz.zeroValue9
 t20:=Tryz.underlying20
 a20:=Tryz.isAgg20
 z20:=Tryz.sizeOf20
 v20:=Tryz.zeroValue20
 t37:=Tryz.underlying327
 a37:=Tryz.isAgg327
 z37:=Tryz.sizeOf327
 v37:=Tryz.zeroValue327
 t46:=Tryz.underlying115
 a46:=Tryz.isAgg115
 z46:=Tryz.sizeOf115
 v46:=Tryz.zeroValue115
 t51:=Tryz.underlying140
 a51:=Tryz.isAgg140
 z51:=Tryz.sizeOf140
 v51:=Tryz.zeroValue140
 t53:=Tryz.underlying142
 a53:=Tryz.isAgg142
 z53:=Tryz.sizeOf142
 v53:=Tryz.zeroValue142
 t171:=Tryz.underlying569
 a171:=Tryz.isAgg569
 z171:=Tryz.sizeOf569
 v171:=Tryz.zeroValue569
 t173:=Tryz.underlying571
 a173:=Tryz.isAgg571
 z173:=Tryz.sizeOf571
 v173:=Tryz.zeroValue571
 t212:=Tryz.underlying583
 a212:=Tryz.isAgg583
 z212:=Tryz.sizeOf583
 v212:=Tryz.zeroValue583
 t213:=Tryz.underlying584
 a213:=Tryz.isAgg584
 z213:=Tryz.sizeOf584
 t232:=Tryz.underlying589
 a232:=Tryz.isAgg589
 z232:=Tryz.sizeOf589
 v232:=Tryz.zeroValue589
 t233:=Tryz.underlying590
 a233:=Tryz.isAgg590
 z233:=Tryz.sizeOf590
 v233:=Tryz.zeroValue590
 g17:=by kernel_rfl
 g18:=by kernel_rfl
 g19:=by kernel_rfl
 i0:=by kernel_rfl
 i2:=by kernel_rfl
 i3:=by kernel_rfl
 i4:=by kernel_rfl
 i5:=by kernel_rfl
 i9:=by kernel_rfl
 i20:=by kernel_rfl
 i37:=by kernel_rfl
 i46:=by kernel_rfl
 i51:=by kernel_rfl
 i53:=by kernel_rfl
 i171:=by kernel_rfl
 i173:=by kernel_rfl
 i212:=by kernel_rfl
 i232:=by kernel_rfl
 i233:=by kernel_rfl
 m17:=by kernel_rfl
 m18:=by kernel_rfl
 m19:=by kernel_rfl }
def Tryz.laysC172_ren:Go.Shelf.Ren:=⟨fun | 172=>368 | 244=>401 | 245=>402 | 247=>416 | 279=>417 | 280=>418 | 281=>419 | 282=>420 | 287=>432 | 316=>433 | 171=>361 | 205=>434 | 321=>440 | 322=>441 | 243=>397 | 246=>414 | 283=>427 | 284=>428 | 285=>429 | 286=>430 | 129=>69 | 317=>436 | 318=>437 | 319=>438 | 320=>439 | 337=>442 | 338=>443 | n=>n,fun | 9=>9 | 3=>3 | 75=>332 | 76=>334 | 4=>4 | 5=>5 | 167=>557 | 37=>327 | 0=>0 | 85=>558 | 2=>2 | 168=>560 | 53=>142 | 175=>573 | 46=>115 | 210=>576 | 127=>397 | 145=>588 | 143=>586 | 21=>21 | 171=>569 | 173=>571 | 212=>583 | 51=>140 | 20=>20 | 213=>584 | 232=>589 | 233=>590 | 80=>183 | n=>n,fun | 15=>4 | 16=>5 | 17=>6 | 18=>7 | 19=>8 | n=>n⟩
theorem Tryz.laysC172:Go.Proofs.LaysC.n172 Tryz.prog Tryz.laysC172_ren:={
 mixed:=by kernel_rfl
 f129:=Tryz.func69.trans (congrArg some (by kernel_rfl))
 f171:=Tryz.func361.trans (congrArg some (by kernel_rfl))
 f172:=Tryz.func368.trans (congrArg some (by kernel_rfl))
 f205:=Tryz.func434.trans (congrArg some (by kernel_rfl))
 f243:=Tryz.func397.trans (congrArg some (by kernel_rfl))
 f244:=Tryz.func401.trans (congrArg some (by kernel_rfl))
 f245:=Tryz.func402.trans (congrArg some (by kernel_rfl))
 f246:=Tryz.func414.trans (congrArg some (by kernel_rfl))
 f247:=Tryz.func416.trans (congrArg some (by kernel_rfl))
 f279:=Tryz.func417.trans (congrArg some (by kernel_rfl))
 f280:=Tryz.func418.trans (congrArg some (by kernel_rfl))
 f281:=Tryz.func419.trans (congrArg some (by kernel_rfl))
 f282:=Tryz.func420.trans (congrArg some (by kernel_rfl))
 f283:=Tryz.func427.trans (congrArg some (by kernel_rfl))
 f284:=Tryz.func428.trans (congrArg some (by kernel_rfl))
 f285:=Tryz.func429.trans (congrArg some (by kernel_rfl))
 f286:=Tryz.func430.trans (congrArg some (by kernel_rfl))
 f287:=Tryz.func432.trans (congrArg some (by kernel_rfl))
 f316:=Tryz.func433.trans (congrArg some (by kernel_rfl))
 f317:=Tryz.func436.trans (congrArg some (by kernel_rfl))
 f318:=Tryz.func437.trans (congrArg some (by kernel_rfl))
 f319:=Tryz.func438.trans (congrArg some (by kernel_rfl))
 f320:=Tryz.func439.trans (congrArg some (by kernel_rfl))
 f321:=Tryz.func440.trans (congrArg some (by kernel_rfl))
 f322:=Tryz.func441.trans (congrArg some (by kernel_rfl))
 f337:=Tryz.func442.trans (congrArg some (by kernel_rfl))
 f338:=Tryz.func443.trans (congrArg some (by kernel_rfl))
 t0:=Tryz.underlying0
 a0:=Tryz.isAgg0
 z0:=Tryz.sizeOf0
 v0:=Tryz.zeroValue0
 t2:=Tryz.underlying2
 a2:=Tryz.isAgg2
 z2:=Tryz.sizeOf2
 v2:=Tryz.zeroValue2
 t3:=Tryz.underlying3
 a3:=Tryz.isAgg3
 z3:=Tryz.sizeOf3
 v3:=Tryz.zeroValue3
 t4:=Tryz.underlying4
 a4:=Tryz.isAgg4
 z4:=Tryz.sizeOf4
 v4:=Tryz.zeroValue4
 t5:=Tryz.underlying5
 a5:=Tryz.isAgg5
 z5:=Tryz.sizeOf5
 v5:=Tryz.zeroValue5
 t9:=Tryz.underlying9
 a9:=Tryz.isAgg9
 z9:=Tryz.sizeOf9
 v9:=Tryz.zeroValue9
 t20:=Tryz.underlying20
 a20:=Tryz.isAgg20
 z20:=Tryz.sizeOf20
 v20:=Tryz.zeroValue20
 t21:=Tryz.underlying21
 a21:=Tryz.isAgg21
 z21:=Tryz.sizeOf21
 v21:=Tryz.zeroValue21
 t37:=Tryz.underlying327
 a37:=Tryz.isAgg327
 z37:=Tryz.sizeOf327
 v37:=Tryz.zeroValue327
 t46:=Tryz.underlying115
 a46:=Tryz.isAgg115
 z46:=Tryz.sizeOf115
 v46:=Tryz.zeroValue115
 t51:=Tryz.underlying140
 a51:=Tryz.isAgg140
 z51:=Tryz.sizeOf140
 v51:=Tryz.zeroValue140
 t53:=Tryz.underlying142
 a53:=Tryz.isAgg142
 z53:=Tryz.sizeOf142
 v53:=Tryz.zeroValue142
 t75:=Tryz.underlying332
 a75:=Tryz.isAgg332
 z75:=Tryz.sizeOf332
 v75:=Tryz.zeroValue332
 t76:=Tryz.underlying334
 a76:=Tryz.isAgg334
 z76:=Tryz.sizeOf334
 v76:=Tryz.zeroValue334
 t85:=Tryz.underlying558
 a85:=Tryz.isAgg558
 z85:=Tryz.sizeOf558
 v85:=Tryz.zeroValue558
 t127:=Tryz.underlying397
 a127:=Tryz.isAgg397
 z127:=Tryz.sizeOf397
 v127:=Tryz.zeroValue397
 t143:=Tryz.underlying586
 a143:=Tryz.isAgg586
 z143:=Tryz.sizeOf586
 v143:=Tryz.zeroValue586
 t145:=Tryz.underlying588
 a145:=Tryz.isAgg588
 z145:=Tryz.sizeOf588
 v145:=Tryz.zeroValue588
 t167:=Tryz.underlying557
 a167:=Tryz.isAgg557
 z167:=Tryz.sizeOf557
 v167:=Tryz.zeroValue557
 t168:=Tryz.underlying560
 a168:=Tryz.isAgg560
 z168:=Tryz.sizeOf560
 v168:=Tryz.zeroValue560
 t171:=Tryz.underlying569
 a171:=Tryz.isAgg569
 z171:=Tryz.sizeOf569
 v171:=Tryz.zeroValue569
 t173:=Tryz.underlying571
 a173:=Tryz.isAgg571
 z173:=Tryz.sizeOf571
 v173:=Tryz.zeroValue571
 t175:=Tryz.underlying573
 a175:=Tryz.isAgg573
 z175:=Tryz.sizeOf573
 v175:=Tryz.zeroValue573
 t210:=Tryz.underlying576
 a210:=Tryz.isAgg576
 z210:=Tryz.sizeOf576
 v210:=Tryz.zeroValue576
 t212:=Tryz.underlying583
 a212:=Tryz.isAgg583
 z212:=Tryz.sizeOf583
 v212:=Tryz.zeroValue583
 t213:=Tryz.underlying584
 a213:=Tryz.isAgg584
 z213:=Tryz.sizeOf584
 t232:=Tryz.underlying589
 a232:=Tryz.isAgg589
 z232:=Tryz.sizeOf589
 v232:=Tryz.zeroValue589
 t233:=Tryz.underlying590
 a233:=Tryz.isAgg590
 z233:=Tryz.sizeOf590
 v233:=Tryz.zeroValue590
 g15:=by kernel_rfl
 g16:=by kernel_rfl
 g17:=by kernel_rfl
 g18:=by kernel_rfl
 g19:=by kernel_rfl
 t80:=Tryz.underlying183
 a80:=Tryz.isAgg183
 z80:=Tryz.sizeOf183
 v80:=Tryz.zeroValue183
 i0:=by kernel_rfl
 i2:=by kernel_rfl
 i3:=by kernel_rfl
 i4:=by kernel_rfl
 i5:=by kernel_rfl
 i9:=by kernel_rfl
 i20:=by kernel_rfl
 i21:=by kernel_rfl
 i37:=by kernel_rfl
 i46:=by kernel_rfl
 i51:=by kernel_rfl
 i53:=by kernel_rfl
 i75:=by kernel_rfl
 i76:=by kernel_rfl
 i80:=by kernel_rfl
 i85:=by kernel_rfl
 i127:=by kernel_rfl
 i143:=by kernel_rfl
 i145:=by kernel_rfl
 i167:=by kernel_rfl
 i168:=by kernel_rfl
 i171:=by kernel_rfl
 i173:=by kernel_rfl
 i175:=by kernel_rfl
 i210:=by kernel_rfl
 i212:=by kernel_rfl
 i232:=by kernel_rfl
 i233:=by kernel_rfl
 m15:=by kernel_rfl
 m16:=by kernel_rfl
 m17:=by kernel_rfl
 m18:=by kernel_rfl
 m19:=by kernel_rfl
 c0:=by kernel_rfl
 c2:=by kernel_rfl
 c3:=by kernel_rfl
 c4:=by kernel_rfl
 c5:=by kernel_rfl
 c9:=by kernel_rfl
 c20:=by kernel_rfl
 c21:=by kernel_rfl
 c37:=by kernel_rfl
 c46:=by kernel_rfl
 c51:=by kernel_rfl
 c53:=by kernel_rfl
 c75:=by kernel_rfl
 c76:=by kernel_rfl
 c80:=by kernel_rfl
 c85:=by kernel_rfl
 c127:=by kernel_rfl
 c143:=by kernel_rfl
 c145:=by kernel_rfl
 c167:=by kernel_rfl
 c168:=by kernel_rfl
 c171:=by kernel_rfl
 c173:=by kernel_rfl
 c175:=by kernel_rfl
 c210:=by kernel_rfl
 c212:=by kernel_rfl
 c213:=by kernel_rfl
 c232:=by kernel_rfl
 c233:=by kernel_rfl }
open Go.RowKit in
theorem Tryz.strconv_Atoi_ok (s:ByteArray) (hmax:s.size≤9223372036854775806) (v:Int) (h:Lib.atoiAll s.data.toList=.ok v) (w:World) :
 Calls Tryz.prog 368 #[.string s] w fun e w'=>e=.returned (.tuple #[.int .i64 v,.nilIface])∧(w'=w∨∃ t,w'=Lib.bytesWorld w 5 t):=Any.strconv_Atoi_ok Tryz.laysC172 s hmax v h w
open Go.RowKit in
theorem Tryz.strconv_Atoi_syntax (s:ByteArray) (hlim:s.size≤281474976710656) (h:Lib.atoiAll s.data.toList=Lib.atoiAll []) (ev:Value) (w:World) (hv:w.cell? ⟨4,0,none⟩=some ev) (hev:ev=.nilIface∨∃ te pe,ev=.iface te pe) :
 Calls Tryz.prog 368 #[.string s] w fun e w'=>∃ N,e=.returned (.tuple #[.int .i64 (0),.iface 560 (.pointer (some ⟨N,0,none⟩))])∧w.heap.size≤N∧w'.heap[N]? = some (.cells #[.string ⟨#[65,116,111,105]⟩,.string s,ev] 576 (0,0))∧Below w.heap.size w w':=Any.strconv_Atoi_syntax Tryz.laysC172 s hlim h ev w hv hev
open Go.RowKit in
theorem Tryz.strconv_Atoi_range (s:ByteArray) (hlim:s.size≤281474976710656) (h:Lib.atoiAll s.data.toList=.range) (ev:Value) (w:World) (hv:w.cell? ⟨5,0,none⟩=some ev) (hev:ev=.nilIface∨∃ te pe,ev=.iface te pe) :
 Calls Tryz.prog 368 #[.string s] w fun e w'=>∃ N,e=.returned (.tuple #[.int .i64 (Lib.atoiSat s.data.toList),.iface 560 (.pointer (some ⟨N,0,none⟩))])∧w.heap.size≤N∧w'.heap[N]? = some (.cells #[.string ⟨#[65,116,111,105]⟩,.string s,ev] 576 (0,0))∧Below w.heap.size w w':=Any.strconv_Atoi_range Tryz.laysC172 s hlim h ev w hv hev
def Tryz.lays145_ren:Go.Shelf.Ren:=⟨fun | 145=>308 | 220=>365 | 219=>346 | 217=>187 | 225=>386 | 224=>387 | 267=>388 | 266=>240 | 314=>408 | n=>n,fun | 9=>9 | 4=>4 | 59=>472 | 3=>3 | 5=>5 | 46=>115 | 146=>549 | 51=>140 | n=>n,fun | 1=>0 | n=>n⟩
theorem Tryz.lays145:Go.Proofs.Lays.n145 Tryz.prog Tryz.lays145_ren:={
 mixed:=by kernel_rfl
 f145:=Tryz.func308.trans (congrArg some (by kernel_rfl))
 f217:=Tryz.func187.trans (congrArg some (by kernel_rfl))
 f219:=Tryz.func346.trans (congrArg some (by kernel_rfl))
 f220:=Tryz.func365.trans (congrArg some (by kernel_rfl))
 f224:=Tryz.func387.trans (congrArg some (by kernel_rfl))
 f225:=Tryz.func386.trans (congrArg some (by kernel_rfl))
 f266:=Tryz.func240.trans (congrArg some (by kernel_rfl))
 f267:=Tryz.func388.trans (congrArg some (by kernel_rfl))
 f314:=Tryz.func408.trans (congrArg some (by kernel_rfl))
 t3:=Tryz.underlying3
 a3:=Tryz.isAgg3
 z3:=Tryz.sizeOf3
 v3:=Tryz.zeroValue3
 t4:=Tryz.underlying4
 a4:=Tryz.isAgg4
 z4:=Tryz.sizeOf4
 v4:=Tryz.zeroValue4
 t5:=Tryz.underlying5
 a5:=Tryz.isAgg5
 z5:=Tryz.sizeOf5
 v5:=Tryz.zeroValue5
 t9:=Tryz.underlying9
 a9:=Tryz.isAgg9
 z9:=Tryz.sizeOf9
 v9:=Tryz.zeroValue9
 t46:=Tryz.underlying115
 a46:=Tryz.isAgg115
 z46:=Tryz.sizeOf115
 v46:=Tryz.zeroValue115
 t51:=Tryz.underlying140
 a51:=Tryz.isAgg140
 z51:=Tryz.sizeOf140
 v51:=Tryz.zeroValue140
 t59:=Tryz.underlying472
 a59:=Tryz.isAgg472
 z59:=Tryz.sizeOf472
 v59:=Tryz.zeroValue472
 t146:=Tryz.underlying549
 a146:=Tryz.isAgg549
 z146:=Tryz.sizeOf549
 v146:=Tryz.zeroValue549
 g1:=by kernel_rfl }
open Go.RowKit Go.Lib in
theorem Tryz.strings_Cut (s sep:ByteArray) (m:Int) (w:World) (hs:s.size<4294967281) (hm:w.cell? ⟨0,0,none⟩=some (.int .i64 m)) :
 Calls Tryz.prog 308 #[.string s,.string sep] w fun e w'=>e=.returned (.tuple #[.string ⟨(Lib.cut s.data.toList sep.data.toList).1.toArray⟩,.string ⟨(Lib.cut s.data.toList sep.data.toList).2.1.toArray⟩,.bool (Lib.cut s.data.toList sep.data.toList).2.2])∧∃ n,w'=w.drewN n:=Any.strings_Cut Tryz.lays145 s sep m w hs hm
def Tryz.lays149_ren:Go.Shelf.Ren:=⟨fun | 149=>312 | 222=>366 | n=>n,fun | 9=>9 | 5=>5 | 3=>3 | 4=>4 | n=>n,fun | n=>n⟩
theorem Tryz.lays149:Go.Proofs.Lays.n149 Tryz.prog Tryz.lays149_ren:={
 mixed:=by kernel_rfl
 f149:=Tryz.func312.trans (congrArg some (by kernel_rfl))
 f222:=Tryz.func366.trans (congrArg some (by kernel_rfl))
 t3:=Tryz.underlying3
 a3:=Tryz.isAgg3
 z3:=Tryz.sizeOf3
 v3:=Tryz.zeroValue3
 t4:=Tryz.underlying4
 a4:=Tryz.isAgg4
 z4:=Tryz.sizeOf4
 v4:=Tryz.zeroValue4
 t5:=Tryz.underlying5
 a5:=Tryz.isAgg5
 z5:=Tryz.sizeOf5
 v5:=Tryz.zeroValue5
 t9:=Tryz.underlying9
 a9:=Tryz.isAgg9
 z9:=Tryz.sizeOf9
 v9:=Tryz.zeroValue9 }
open Go.RowKit Go.Lib in
theorem Tryz.strings_LastIndexByte (s:ByteArray) (c:Int) (hs:s.size<4611686018427387904) (w:World) :
 Calls Tryz.prog 312 #[.string s,.int .u8 c] w fun e w'=>e=.returned (.int .i64 (Lib.lastIndexByte s c))∧w'=w:=Any.strings_LastIndexByte Tryz.lays149 s c hs w
def Tryz.lays99_ren:Go.Shelf.Ren:=⟨fun | 99=>290 | 206=>342 | n=>n,fun | 9=>9 | 4=>4 | 3=>3 | n=>n,fun | n=>n⟩
theorem Tryz.lays99:Go.Proofs.Lays.n99 Tryz.prog Tryz.lays99_ren:={
 mixed:=by kernel_rfl
 f99:=Tryz.func290.trans (congrArg some (by kernel_rfl))
 f206:=Tryz.func342.trans (congrArg some (by kernel_rfl))
 t3:=Tryz.underlying3
 a3:=Tryz.isAgg3
 z3:=Tryz.sizeOf3
 v3:=Tryz.zeroValue3
 t4:=Tryz.underlying4
 a4:=Tryz.isAgg4
 z4:=Tryz.sizeOf4
 v4:=Tryz.zeroValue4
 t9:=Tryz.underlying9
 a9:=Tryz.isAgg9
 z9:=Tryz.sizeOf9
 v9:=Tryz.zeroValue9 }
open Go.RowKit Go.Lib in
theorem Tryz.strings_HasPrefix (s p:ByteArray) (w:World) :
 Calls Tryz.prog 290 #[.string s,.string p] w fun e w'=>e=.returned (.bool (Lib.hasPrefix s.data.toList p.data.toList))∧w'=w:=Any.strings_HasPrefix Tryz.lays99 s p w
def Tryz.lays101_ren:Go.Shelf.Ren:=⟨fun | 101=>313 | 208=>367 | 206=>342 | n=>n,fun | 9=>9 | 4=>4 | 3=>3 | n=>n,fun | n=>n⟩
theorem Tryz.lays101:Go.Proofs.Lays.n101 Tryz.prog Tryz.lays101_ren:={
 mixed:=by kernel_rfl
 f101:=Tryz.func313.trans (congrArg some (by kernel_rfl))
 f206:=Tryz.func342.trans (congrArg some (by kernel_rfl))
 f208:=Tryz.func367.trans (congrArg some (by kernel_rfl))
 t3:=Tryz.underlying3
 a3:=Tryz.isAgg3
 z3:=Tryz.sizeOf3
 v3:=Tryz.zeroValue3
 t4:=Tryz.underlying4
 a4:=Tryz.isAgg4
 z4:=Tryz.sizeOf4
 v4:=Tryz.zeroValue4
 t9:=Tryz.underlying9
 a9:=Tryz.isAgg9
 z9:=Tryz.sizeOf9
 v9:=Tryz.zeroValue9 }
open Go.RowKit Go.Lib in
theorem Tryz.strings_TrimPrefix (s p:ByteArray) (w:World) :
 Calls Tryz.prog 313 #[.string s,.string p] w fun e w'=>e=.returned (.string ⟨(Lib.trimPrefix s.data.toList p.data.toList).toArray⟩)∧w'=w:=Any.strings_TrimPrefix Tryz.lays101 s p w
def Tryz.lays146_ren:Go.Shelf.Ren:=⟨fun | 146=>186 | 221=>239 | 268=>291 | 138=>292 | 143=>293 | 195=>343 | 197=>344 | 218=>345 | 219=>346 | 260=>385 | 217=>187 | 225=>386 | 224=>387 | 267=>388 | 266=>240 | 314=>408 | n=>n,fun | 9=>9 | 31=>23 | 3=>3 | 4=>4 | 0=>0 | 105=>501 | 21=>21 | 5=>5 | 46=>115 | 119=>545 | 139=>548 | 138=>547 | 146=>549 | 51=>140 | n=>n,fun | 1=>0 | 3=>2 | 4=>3 | n=>n⟩
theorem Tryz.lays146:Go.Proofs.Lays.n146 Tryz.prog Tryz.lays146_ren:={
 mixed:=by kernel_rfl
 f138:=Tryz.func292.trans (congrArg some (by kernel_rfl))
 f143:=Tryz.func293.trans (congrArg some (by kernel_rfl))
 f146:=Tryz.func186.trans (congrArg some (by kernel_rfl))
 f195:=Tryz.func343.trans (congrArg some (by kernel_rfl))
 f197:=Tryz.func344.trans (congrArg some (by kernel_rfl))
 f217:=Tryz.func187.trans (congrArg some (by kernel_rfl))
 f218:=Tryz.func345.trans (congrArg some (by kernel_rfl))
 f219:=Tryz.func346.trans (congrArg some (by kernel_rfl))
 f221:=Tryz.func239.trans (congrArg some (by kernel_rfl))
 f224:=Tryz.func387.trans (congrArg some (by kernel_rfl))
 f225:=Tryz.func386.trans (congrArg some (by kernel_rfl))
 f260:=Tryz.func385.trans (congrArg some (by kernel_rfl))
 f266:=Tryz.func240.trans (congrArg some (by kernel_rfl))
 f267:=Tryz.func388.trans (congrArg some (by kernel_rfl))
 f268:=Tryz.func291.trans (congrArg some (by kernel_rfl))
 f314:=Tryz.func408.trans (congrArg some (by kernel_rfl))
 t0:=Tryz.underlying0
 a0:=Tryz.isAgg0
 z0:=Tryz.sizeOf0
 v0:=Tryz.zeroValue0
 t3:=Tryz.underlying3
 a3:=Tryz.isAgg3
 z3:=Tryz.sizeOf3
 v3:=Tryz.zeroValue3
 t4:=Tryz.underlying4
 a4:=Tryz.isAgg4
 z4:=Tryz.sizeOf4
 v4:=Tryz.zeroValue4
 t5:=Tryz.underlying5
 a5:=Tryz.isAgg5
 z5:=Tryz.sizeOf5
 v5:=Tryz.zeroValue5
 t9:=Tryz.underlying9
 a9:=Tryz.isAgg9
 z9:=Tryz.sizeOf9
 v9:=Tryz.zeroValue9
 t21:=Tryz.underlying21
 a21:=Tryz.isAgg21
 z21:=Tryz.sizeOf21
 v21:=Tryz.zeroValue21
 t31:=Tryz.underlying23
 a31:=Tryz.isAgg23
 z31:=Tryz.sizeOf23
 v31:=Tryz.zeroValue23
 t46:=Tryz.underlying115
 a46:=Tryz.isAgg115
 z46:=Tryz.sizeOf115
 v46:=Tryz.zeroValue115
 t51:=Tryz.underlying140
 a51:=Tryz.isAgg140
 z51:=Tryz.sizeOf140
 v51:=Tryz.zeroValue140
 t105:=Tryz.underlying501
 a105:=Tryz.isAgg501
 z105:=Tryz.sizeOf501
 v105:=Tryz.zeroValue501
 t119:=Tryz.underlying545
 a119:=Tryz.isAgg545
 z119:=Tryz.sizeOf545
 t138:=Tryz.underlying547
 a138:=Tryz.isAgg547
 z138:=Tryz.sizeOf547
 v138:=Tryz.zeroValue547
 t139:=Tryz.underlying548
 a139:=Tryz.isAgg548
 z139:=Tryz.sizeOf548
 v139:=Tryz.zeroValue548
 t146:=Tryz.underlying549
 a146:=Tryz.isAgg549
 z146:=Tryz.sizeOf549
 v146:=Tryz.zeroValue549
 g1:=by kernel_rfl
 g3:=by kernel_rfl
 g4:=by kernel_rfl }
open Go.RowKit Go.Lib in
theorem Tryz.strings_Split (s sep:ByteArray) (m:Int) (w:World) (hs:s.size<4294967281) (hm:w.cell? ⟨0,0,none⟩=some (.int .i64 m)) (h1:1≤sep.size) :
 Calls Tryz.prog 186 #[.string s,.string sep] w fun e w' =>
  e=.returned (.slice (some ⟨w.heap.size,0,none⟩) (Lib.countB s sep+1) (Lib.countB s sep+1))∧w'=w.alloc (.cells ((Lib.splitB sep 0 (Lib.countB s sep) s).map Value.string).toArray 9):=Any.strings_Split Tryz.lays146 (by kernel_rfl) s sep m w hs hm h1
def Tryz.lays105_ren:Go.Shelf.Ren:=⟨fun | 105=>396 | 212=>412 | 99=>290 | 165=>242 | 166=>192 | 170=>413 | 169=>193 | 263=>425 | 264=>426 | 206=>342 | 240=>243 | 241=>294 | 276=>295 | 277=>347 | n=>n,fun | 9=>9 | 3=>3 | 4=>4 | 20=>20 | 0=>0 | 46=>115 | 109=>554 | 5=>5 | 72=>329 | 76=>334 | 51=>140 | 146=>549 | 53=>142 | 148=>567 | 70=>326 | 37=>327 | 75=>332 | 127=>397 | 164=>452 | 80=>183 | n=>n,fun | n=>n⟩
theorem Tryz.lays105:Go.Proofs.Lays.n105 Tryz.prog Tryz.lays105_ren:={
 mixed:=by kernel_rfl
 f99:=Tryz.func290.trans (congrArg some (by kernel_rfl))
 f105:=Tryz.func396.trans (congrArg some (by kernel_rfl))
 f165:=Tryz.func242.trans (congrArg some (by kernel_rfl))
 f166:=Tryz.func192.trans (congrArg some (by kernel_rfl))
 f169:=Tryz.func193.trans (congrArg some (by kernel_rfl))
 f170:=Tryz.func413.trans (congrArg some (by kernel_rfl))
 f206:=Tryz.func342.trans (congrArg some (by kernel_rfl))
 f212:=Tryz.func412.trans (congrArg some (by kernel_rfl))
 f240:=Tryz.func243.trans (congrArg some (by kernel_rfl))
 f241:=Tryz.func294.trans (congrArg some (by kernel_rfl))
 f263:=Tryz.func425.trans (congrArg some (by kernel_rfl))
 f264:=Tryz.func426.trans (congrArg some (by kernel_rfl))
 f276:=Tryz.func295.trans (congrArg some (by kernel_rfl))
 f277:=Tryz.func347.trans (congrArg some (by kernel_rfl))
 t0:=Tryz.underlying0
 a0:=Tryz.isAgg0
 z0:=Tryz.sizeOf0
 v0:=Tryz.zeroValue0
 t3:=Tryz.underlying3
 a3:=Tryz.isAgg3
 z3:=Tryz.sizeOf3
 v3:=Tryz.zeroValue3
 t4:=Tryz.underlying4
 a4:=Tryz.isAgg4
 z4:=Tryz.sizeOf4
 v4:=Tryz.zeroValue4
 t5:=Tryz.underlying5
 a5:=Tryz.isAgg5
 z5:=Tryz.sizeOf5
 v5:=Tryz.zeroValue5
 t9:=Tryz.underlying9
 a9:=Tryz.isAgg9
 z9:=Tryz.sizeOf9
 v9:=Tryz.zeroValue9
 t20:=Tryz.underlying20
 a20:=Tryz.isAgg20
 z20:=Tryz.sizeOf20
 v20:=Tryz.zeroValue20
 t37:=Tryz.underlying327
 a37:=Tryz.isAgg327
 z37:=Tryz.sizeOf327
 v37:=Tryz.zeroValue327
 t46:=Tryz.underlying115
 a46:=Tryz.isAgg115
 z46:=Tryz.sizeOf115
 v46:=Tryz.zeroValue115
 t51:=Tryz.underlying140
 a51:=Tryz.isAgg140
 z51:=Tryz.sizeOf140
 v51:=Tryz.zeroValue140
 t53:=Tryz.underlying142
 a53:=Tryz.isAgg142
 z53:=Tryz.sizeOf142
 v53:=Tryz.zeroValue142
 t70:=Tryz.underlying326
 a70:=Tryz.isAgg326
 z70:=Tryz.sizeOf326
 v70:=Tryz.zeroValue326
 t72:=Tryz.underlying329
 a72:=Tryz.isAgg329
 z72:=Tryz.sizeOf329
 v72:=Tryz.zeroValue329
 t75:=Tryz.underlying332
 a75:=Tryz.isAgg332
 z75:=Tryz.sizeOf332
 v75:=Tryz.zeroValue332
 t76:=Tryz.underlying334
 a76:=Tryz.isAgg334
 z76:=Tryz.sizeOf334
 v76:=Tryz.zeroValue334
 t109:=Tryz.underlying554
 a109:=Tryz.isAgg554
 z109:=Tryz.sizeOf554
 v109:=Tryz.zeroValue554
 t127:=Tryz.underlying397
 a127:=Tryz.isAgg397
 z127:=Tryz.sizeOf397
 v127:=Tryz.zeroValue397
 t146:=Tryz.underlying549
 a146:=Tryz.isAgg549
 z146:=Tryz.sizeOf549
 v146:=Tryz.zeroValue549
 t148:=Tryz.underlying567
 a148:=Tryz.isAgg567
 z148:=Tryz.sizeOf567
 v148:=Tryz.zeroValue567
 t164:=Tryz.underlying452
 a164:=Tryz.isAgg452
 z164:=Tryz.sizeOf452
 v164:=Tryz.zeroValue452 }
theorem Tryz.Builder_Extra_105:Builder.Extra Tryz.prog Tryz.lays105_ren:={
 sizeBuilder:=by kernel_rfl
 liesBuilder:=by kernel_rfl
 t5:=Tryz.underlying5
 a5:=Tryz.isAgg5
 z5:=Tryz.sizeOf5
 v5:=Tryz.zeroValue5
 infoByte:=by kernel_rfl
 cellsByte:=by kernel_rfl
 sizeByte:=by kernel_rfl
 neB5:=by decide }
open Go.RowKit Go.Lib in
theorem Tryz.strings_Repeat (s:ByteArray) (c:Nat) (w:World) (hc:c≤9223372036854775807) (hlen:s.size*c≤140737488355328) :
 Calls Tryz.prog 396 #[.string s,.int .i64 c] w fun e w'=>e=.returned (.string ⟨(Lib.repeatL s.data.toList c).toArray⟩)∧Below w.heap.size w w':=Any.strings_Repeat Tryz.lays105 Tryz.Builder_Extra_105 s c w hc hlen
def Tryz.lays229_ren:Go.Shelf.Ren:=⟨fun | 229=>372 | n=>n,fun | 9=>9 | 40=>521 | 31=>23 | 152=>537 | 3=>3 | 0=>0 | 4=>4 | 21=>21 | 154=>539 | n=>n,fun | n=>n⟩
theorem Tryz.lays229:Go.Proofs.Lays.n229 Tryz.prog Tryz.lays229_ren:={
 mixed:=by kernel_rfl
 f229:=Tryz.func372.trans (congrArg some (by kernel_rfl))
 t0:=Tryz.underlying0
 a0:=Tryz.isAgg0
 z0:=Tryz.sizeOf0
 v0:=Tryz.zeroValue0
 t3:=Tryz.underlying3
 a3:=Tryz.isAgg3
 z3:=Tryz.sizeOf3
 v3:=Tryz.zeroValue3
 t4:=Tryz.underlying4
 a4:=Tryz.isAgg4
 z4:=Tryz.sizeOf4
 v4:=Tryz.zeroValue4
 t9:=Tryz.underlying9
 a9:=Tryz.isAgg9
 z9:=Tryz.sizeOf9
 v9:=Tryz.zeroValue9
 t21:=Tryz.underlying21
 a21:=Tryz.isAgg21
 z21:=Tryz.sizeOf21
 v21:=Tryz.zeroValue21
 t31:=Tryz.underlying23
 a31:=Tryz.isAgg23
 z31:=Tryz.sizeOf23
 v31:=Tryz.zeroValue23
 t40:=Tryz.underlying521
 a40:=Tryz.isAgg521
 z40:=Tryz.sizeOf521
 v40:=Tryz.zeroValue521
 t152:=Tryz.underlying537
 a152:=Tryz.isAgg537
 z152:=Tryz.sizeOf537
 v152:=Tryz.zeroValue537
 t154:=Tryz.underlying539
 a154:=Tryz.isAgg539
 z154:=Tryz.sizeOf539
 v154:=Tryz.zeroValue539 }
open Go.RowKit Go.Lib in
theorem Tryz.strings_ToLower_any (s:ByteArray) (w:World) (hs:s.size<35184372088832) (hV:CaseVar 1 caseA w) (hT:Lib.Utf8Tabs 2 3 w) :
 Calls Tryz.prog 259 #[.string s] w fun e w'=>e=.returned (.string ⟨(Lib.toLowerD s.data.toList).toArray⟩)∧Below w.heap.size w w':=Any.strings_ToLower_any Tryz.lays159 Tryz.Builder_Extra_159 s w hs hV hT
end Go.Proofs
namespace Go.Ev.Pv
open Go.Proofs Go.RowKit Go.Lib
def HoldsTab (w:World) (g:Nat) (k:IntKind) (zs:List Int):Prop:=∃ el fz,w.heap[g]? = some (.cells (zs.map fun z=>Value.int k z).toArray el fz)
theorem ucb0_ {P:Program} {w:World} {n:String} {g:Nat} {k:IntKind} {zs:List Int} (hg:P.globalNamed n=some g) (h:HoldsTab w g k zs):Lib.TabIs P w n k zs:=by
 obtain ⟨el,fz,h⟩:=h
 unfold Lib.TabIs World.var?
 rw [hg]
 simp only [Option.bind_some,h]
theorem ub6w_ {w:World} {b:Nat} {o:Go.Obj} (h:w.heap[b]? = some o):b<w.heap.size:=(Array.getElem?_eq_some_iff.1 h).1
def Facts (w:World):Prop :=
 HoldsTab w 6 .u64 Lib.pow10Tab∧CaseVar 1 caseA w∧Lib.Utf8Tabs 2 3 w∧(∃ m,w.cell? ⟨0,0,none⟩=some (.int .i64 m)) ∧
 (∃ ev,w.cell? ⟨4,0,none⟩=some ev∧(ev=.nilIface∨∃ te pe,ev=.iface te pe))∧(∃ ev,w.cell? ⟨5,0,none⟩=some ev∧(ev=.nilIface∨∃ te pe,ev=.iface te pe))
theorem ubzx_ {w:World} {b o:Nat} {v:Value} (h:w.cell? ⟨b,o,none⟩=some v):b<w.heap.size:=by
 apply Classical.byContradiction
 intro hn
 simp only [World.cell?,Array.getElem?_eq_none (Nat.le_of_not_lt hn)] at h
 cases h
theorem Facts.below {w w':World} (h:Facts w) (hb:Below w.heap.size w w'):Facts w':=by
 obtain ⟨h1,h2,h3,⟨m,h4⟩,⟨e1,h5,h5'⟩,e2,h6,h6'⟩:=h
 exact ⟨(let ⟨el,fz,h1⟩:=h1; ⟨el,fz,(hb.block 6 (ub6w_ h1)).trans h1⟩),CaseVar_below h2 hb,Utf8Tabs_below h3 hb,⟨m,(hb.cell (ubzx_ h4)).trans h4⟩,⟨e1,(hb.cell (ubzx_ h5)).trans h5,h5'⟩,e2,(hb.cell (ubzx_ h6)).trans h6,h6'⟩
theorem Facts.later {w w':World} (h:Facts w) (hb:∀ b,b<w.heap.size→w'.heap[b]? = w.heap[b]?):Facts w':=by
 have hs:w.heap.size≤w'.heap.size:=by
  apply Classical.byContradiction
  intro hn
  have h1:=hb w'.heap.size (by omega)
  rw [Array.getElem?_eq_none (Nat.le_refl _),Array.getElem?_eq_getElem (by omega)] at h1
  cases h1
 have hB:Below w.heap.size w { w' with os:=w.os,tape:=w.tape,output:=w.output }:=⟨rfl,rfl,rfl,hs,hb⟩
 have h2:=h.below hB
 exact h2
noncomputable instance:Pins:=⟨Tryz.prog,fun w I=>∃ w0,Facts w0∧∀ b,b<w0.heap.size→I.obj b∧w.heap[b]? = w0.heap[b]?,
 fun ⟨w0,h1,h2⟩ e=>⟨w0,h1,fun b hb=>⟨(e.obj b (h2 b hb).1).1,(e.obj b (h2 b hb).1).2.trans (h2 b hb).2⟩⟩⟩
theorem facts {w:World} {I:Im} (h:Mem w I):Facts w:=let ⟨_,h1,h2⟩:=h.2.2; h1.later fun b hb=>(h2 b hb).2
theorem uvo_ {f:Nat} {fn:Func} (h:Tryz.prog.funcs[f]? = some fn) (hn:(fn.name == "runtime.NumGoroutine")=false) (hb:fn.body=some (ui_ fn)):ugs_ Tryz.prog f:=⟨fn,_,h,hn,hb⟩
def uc2_:FSpec:=⟨[.val (.int .i64)],[.val .str],strconv_Itoa,true⟩
theorem udh_:ugs_ Go.Proofs.Tryz.prog 361∧FunOK Go.Proofs.Tryz.prog 361 uc2_:=by
 refine ⟨uvo_ Tryz.func361 (by kernel_rfl) (by kernel_rfl),FunOK.flat1 (t:=.str) rfl rfl (fun args=>by cases args <;> rfl) fun w I v args bs hm hsh r hr=>?_⟩
 obtain ⟨rfl,x,rfl,hx⟩:=in1 hsh
 obtain ⟨rfl,h0,h1⟩:=ub9b_ hx
 cases hr
 refine ⟨rfl,.string ⟨(itoaS v).toArray⟩,fun w' I'=>out1 (ubef_ (Nat.le_trans (ub89_ v) (by decide))),?_⟩
 rw [ucbz_ h0 h1]
 refine (Any.strconv_Itoa Tryz.laysM171 v h0 h1 w (ucb0_ (g:=6) (by kernel_rfl) (facts hm).1)).mono fun e w' ⟨he,k,os,hw⟩=>⟨he,?_,fun _=>?_⟩
 · rw [hw]; exact Lib.below_grow _ w (Nat.le_refl _) k os
 · rw [hw]; exact Nat.le_add_right _ _
theorem ubtf_ {w w':World} {D:Prop} (h:w'=w):Below w.heap.size w w'∧(D→w.drawn≤w'.drawn):=by
 subst h; exact ⟨Below.refl _ _,fun _=>Nat.le_refl _⟩
theorem ucaj_ {w w':World} {D:Prop} (h:∃ n,w'=w.drewN n):Below w.heap.size w w'∧(D→w.drawn≤w'.drawn):=by
 obtain ⟨n,rfl⟩:=h; exact ⟨⟨rfl,rfl,rfl,Nat.le_refl _,fun _ _=>rfl⟩,fun _=>Nat.le_add_right _ _⟩
theorem ub6x_ {a:Str} {n:Nat} (h:a.length<n):(⟨a.toArray⟩:ByteArray).size<n:=by rw [uwa_]; exact h
theorem ucet_ {a:Str} {k n:Nat} (h:a.length*k≤n):(⟨a.toArray⟩:ByteArray).size*k≤n:=by rw [uwa_]; exact h
theorem ucdp_ (s p:Str):(Lib.cut s p).1.length≤s.length∧(Lib.cut s p).2.1.length≤s.length:=by
 unfold Lib.cut
 split
 · simp only [List.length_take,List.length_drop]; omega
 · simp
theorem ub6y_ {s:Str} {k:Nat} (h:s.length*k≤140737488355328):(Lib.repeatL s k).length≤281474976710656:=by rw [Lib.repeatL_length,Nat.mul_comm]; omega
theorem ub6z_ {n:Int} (h1:-9223372036854775808≤n) (h2:n≤9223372036854775807):und_ .i64 n:=⟨h1,h2⟩
theorem uceu_ {n:Int} (h:und_ .i64 n):n≤9223372036854775807:=h.2
theorem ub1n_ (c:UInt8):∀ l:List UInt8,Lib.indexByte l c≤l.length:=by
 intro l
 induction l with
 | nil=>simp [Lib.indexByte]
 | cons b l ih =>
   simp only [Lib.indexByte,List.length_cons]
   repeat' split
   all_goals omega
def ufd_:FSpec:=⟨[.val .str,.val (.int .u8)],[.val (.int .i64)],strings_IndexByte,true⟩
theorem uhc_:ugs_ Go.Proofs.Tryz.prog 142∧FunOK Go.Proofs.Tryz.prog 142 ufd_:=by
 refine ⟨uvo_ Tryz.func142 (by kernel_rfl) (by kernel_rfl),FunOK.flat1 (t:=.int .i64) rfl rfl (fun args=>by rcases args with _ | ⟨_,_ | ⟨_,_⟩⟩ <;> rfl) fun w I v args bs hm hsh r hr=>?_⟩
 obtain ⟨rfl,x,y,rfl,hx,hy⟩:=in2 hsh
 obtain ⟨rfl,h0⟩:=ubee_ hx
 obtain ⟨rfl,h1⟩:=ub9b_ hy
 obtain ⟨h2,hr⟩:=u5l_ hr
 cases hr
 refine ⟨rfl,_,fun w' I'=>out1 (ub26_ (k:=.i64) (n:=Lib.indexByte v.1 v.2.toNat.toUInt8) ?_),?_⟩
 · have k1:=ub1n_ v.2.toNat.toUInt8 v.1
   have k2:=Lib.indexByte_ge v.1 v.2.toNat.toUInt8
   exact ub6z_ (by omega) (by omega)
 · exact (Tryz.strings_IndexByte ⟨v.1.toArray⟩ v.2 w).mono fun e w' ⟨he,hw⟩=>⟨he,ubtf_ hw⟩
theorem ubxl_ (s:ByteArray) (c:Int):∀ k,-1≤Lib.lastIdx s c k∧Lib.lastIdx s c k≤k:=by
 intro k
 induction k with
 | zero=>simp [Lib.lastIdx]
 | succ k ih =>
   simp only [Lib.lastIdx]
   split <;> omega
def utg_:FSpec:=⟨[.val .str,.val (.int .u8)],[.val (.int .i64)],strings_LastIndexByte,true⟩
theorem u8r_:ugs_ Go.Proofs.Tryz.prog 312∧FunOK Go.Proofs.Tryz.prog 312 utg_:=by
 refine ⟨uvo_ Tryz.func312 (by kernel_rfl) (by kernel_rfl),FunOK.flat1 (t:=.int .i64) rfl rfl (fun args=>by rcases args with _ | ⟨_,_ | ⟨_,_⟩⟩ <;> rfl) fun w I v args bs hm hsh r hr=>?_⟩
 obtain ⟨rfl,x,y,rfl,hx,hy⟩:=in2 hsh
 obtain ⟨rfl,h0⟩:=ubee_ hx
 obtain ⟨rfl,h1⟩:=ub9b_ hy
 obtain ⟨h2,hr⟩:=u5l_ hr
 cases hr
 have hsz:(⟨v.1.toArray⟩:ByteArray).size=v.1.length:=uwa_ v.1
 refine ⟨rfl,_,fun w' I'=>out1 (ub26_ (k:=.i64) (n:=Lib.lastIndexByte ⟨v.1.toArray⟩ v.2) ?_),?_⟩
 · have k1:=ubxl_ ⟨v.1.toArray⟩ v.2 (⟨v.1.toArray⟩:ByteArray).size
   have k2:((⟨v.1.toArray⟩:ByteArray).size:Int)=(v.1.length:Nat):=by rw [hsz]
   unfold Lib.lastIndexByte
   exact ub6z_ (by omega) (by omega)
 · exact (Tryz.strings_LastIndexByte ⟨v.1.toArray⟩ v.2 (ub6x_ h2) w).mono fun e w' ⟨he,hw⟩=>⟨he,ubtf_ hw⟩
def u1v_:FSpec:=⟨[.val .str,.val .str],[.val .bool],strings_HasPrefix,true⟩
theorem ubja_:ugs_ Go.Proofs.Tryz.prog 290∧FunOK Go.Proofs.Tryz.prog 290 u1v_:=by
 refine ⟨uvo_ Tryz.func290 (by kernel_rfl) (by kernel_rfl),FunOK.flat1 (t:=.bool) rfl rfl (fun args=>by rcases args with _ | ⟨_,_ | ⟨_,_⟩⟩ <;> rfl) fun w I v args bs hm hsh r hr=>?_⟩
 obtain ⟨rfl,x,y,rfl,hx,hy⟩:=in2 hsh
 obtain ⟨rfl,h0⟩:=ubee_ hx
 obtain ⟨rfl,h1⟩:=ubee_ hy
 cases hr
 exact ⟨rfl,_,fun w' I'=>out1 ub1m_,(Tryz.strings_HasPrefix ⟨v.1.toArray⟩ ⟨v.2.toArray⟩ w).mono fun e w' ⟨he,hw⟩=>⟨he,ubtf_ hw⟩⟩
theorem trimPrefix_len (s p:Str):(Lib.trimPrefix s p).length≤s.length:=by
 unfold Lib.trimPrefix
 split
 · simp
 · exact Nat.le_refl _
def uzu_:FSpec:=⟨[.val .str,.val .str],[.val .str],strings_TrimPrefix,true⟩
theorem ubgn_:ugs_ Go.Proofs.Tryz.prog 313∧FunOK Go.Proofs.Tryz.prog 313 uzu_:=by
 refine ⟨uvo_ Tryz.func313 (by kernel_rfl) (by kernel_rfl),FunOK.flat1 (t:=.str) rfl rfl (fun args=>by rcases args with _ | ⟨_,_ | ⟨_,_⟩⟩ <;> rfl) fun w I v args bs hm hsh r hr=>?_⟩
 obtain ⟨rfl,x,y,rfl,hx,hy⟩:=in2 hsh
 obtain ⟨rfl,h0⟩:=ubee_ hx
 obtain ⟨rfl,h1⟩:=ubee_ hy
 cases hr
 exact ⟨rfl,_,fun w' I'=>out1 (ubef_ (Nat.le_trans (trimPrefix_len v.1 v.2) h0)),(Tryz.strings_TrimPrefix ⟨v.1.toArray⟩ ⟨v.2.toArray⟩ w).mono fun e w' ⟨he,hw⟩=>⟨he,ubtf_ hw⟩⟩
def u1w_:FSpec:=⟨[.val .str,.val .str],[.val .str,.val .bool],strings_CutPrefix,true⟩
theorem ubjb_:ugs_ Go.Proofs.Tryz.prog 317∧FunOK Go.Proofs.Tryz.prog 317 u1w_:=by
 refine ⟨uvo_ Tryz.func317 (by kernel_rfl) (by kernel_rfl),FunOK.given fun w I v args bs hm hsh r hr=>?_⟩
 obtain ⟨rfl,x,y,rfl,hx,hy⟩:=in2 hsh
 obtain ⟨rfl,h0⟩:=ubee_ hx
 obtain ⟨rfl,h1⟩:=ubee_ hy
 cases hr
 refine ⟨rfl,(Tryz.strings_CutPrefix ⟨v.1.toArray⟩ ⟨v.2.toArray⟩ w).mono fun e w' ⟨he,hw⟩=>⟨_,[_,_],noX,he,rfl,rfl,(ubtf_ (D:=True) hw).1,fun _=>(ubtf_ hw).2 trivial,ub1l_,?_⟩⟩
 exact out2 (a:=.str) (b:=.bool) (x:=(Lib.trimPrefix v.1 v.2,Lib.hasPrefix v.1 v.2)) (ubef_ (Nat.le_trans (trimPrefix_len v.1 v.2) h0)) ub1m_
def u8s_:FSpec:=⟨[.val .str,.val .str],[.val .str,.val .str,.val .bool],strings_Cut,true⟩
theorem ubl0_:ugs_ Go.Proofs.Tryz.prog 308∧FunOK Go.Proofs.Tryz.prog 308 u8s_:=by
 refine ⟨uvo_ Tryz.func308 (by kernel_rfl) (by kernel_rfl),FunOK.given fun w I v args bs hm hsh r hr=>?_⟩
 obtain ⟨rfl,x,y,rfl,hx,hy⟩:=in2 hsh
 obtain ⟨rfl,h0⟩:=ubee_ hx
 obtain ⟨rfl,h1⟩:=ubee_ hy
 obtain ⟨h2,hr⟩:=u5l_ hr
 cases hr
 obtain ⟨m,hmm⟩:=(facts hm).2.2.2.1
 refine ⟨rfl,(Tryz.strings_Cut ⟨v.1.toArray⟩ ⟨v.2.toArray⟩ m w (ub6x_ h2) hmm).mono fun e w' ⟨he,hw⟩=>⟨_,[_,_,_],noX,he,rfl,rfl,(ucaj_ (D:=True) hw).1,fun _=>(ucaj_ hw).2 trivial,ub1l_,?_⟩⟩
 have hl:=ucdp_ v.1 v.2
 exact out3 (a:=.str) (b:=.str) (c:=.bool) (x:=Lib.cut v.1 v.2) (ubef_ (Nat.le_trans hl.1 h0)) (ubef_ (Nat.le_trans hl.2 h0)) ub1m_
def uba8_:FSpec:=⟨[.val .str,.val (.int .i64)],[.val .str],strings_Repeat,false⟩
theorem ubqi_:ugs_ Go.Proofs.Tryz.prog 396∧FunOK Go.Proofs.Tryz.prog 396 uba8_:=by
 refine ⟨uvo_ Tryz.func396 (by kernel_rfl) (by kernel_rfl),FunOK.flat1 (t:=.str) rfl rfl (fun args=>by rcases args with _ | ⟨_,_ | ⟨_,_⟩⟩ <;> rfl) fun w I v args bs hm hsh r hr=>?_⟩
 obtain ⟨rfl,x,y,rfl,hx,hy⟩:=in2 hsh
 obtain ⟨rfl,h0⟩:=ubee_ hx
 obtain ⟨rfl,h1⟩:=ub9b_ hy
 obtain ⟨⟨h2,h3⟩,hr⟩:=u5l_ hr
 cases hr
 have hn:((v.2.toNat:Nat):Int)=v.2:=Int.toNat_of_nonneg h2
 have hk:v.2.toNat≤9223372036854775807:=by
  have:=uceu_ h1
  omega
 have hlen:=ub6y_ h3
 refine ⟨rfl,_,fun w' I'=>out1 (ubef_ hlen),?_⟩
 have:=Tryz.strings_Repeat ⟨v.1.toArray⟩ v.2.toNat w hk (ucet_ h3)
 rw [hn] at this
 exact this.mono fun e w' ⟨he,hw⟩=>⟨he,hw,fun h=>by cases h⟩
def uwk_:FSpec:=⟨[.val .str],[.val .str],u5m_,false⟩
theorem u7a_:ugs_ Go.Proofs.Tryz.prog 259∧FunOK Go.Proofs.Tryz.prog 259 uwk_:=by
 refine ⟨uvo_ Tryz.func259 (by kernel_rfl) (by kernel_rfl),FunOK.flat1 (t:=.str) rfl rfl (fun args=>by cases args <;> rfl) fun w I v args bs hm hsh r hr=>?_⟩
 obtain ⟨rfl,x,rfl,hx⟩:=in1 hsh
 obtain ⟨rfl,h0⟩:=ubee_ hx
 obtain ⟨h2,hr⟩:=u5l_ hr
 obtain ⟨rfl,h3⟩:=str?_some hr
 exact ⟨rfl,_,fun w' I'=>out1 (ubef_ h3),(Tryz.strings_ToLower_any ⟨v.toArray⟩ w (ub6x_ h2) (facts hm).2.1 (facts hm).2.2.1).mono fun e w' ⟨he,hw⟩=>⟨he,hw,fun h=>by cases h⟩⟩
theorem ub33_ (w:World) (t:TypeId) (s:ByteArray):Below w.heap.size w (Lib.bytesWorld w t s):=by
 unfold Lib.bytesWorld
 exact Lib.below_freeze (((Below.refl _ _).drew).alloc (Nat.le_refl _) _) (p:=⟨w.heap.size,_,none⟩) (Nat.le_refl _) _
def ubif_:FSpec:=⟨[.val .str],[.val (.int .i64),.any],ubsp_,false⟩
theorem ub1o_ {P:Program} {w:World} {I:Im} {n:Int} (h:und_ .i64 n) (v:Value):ShL P w I [.val (.int .i64),.any] (n,()) [.int .i64 n,v] [] :=
 ⟨_,_,[],[],rfl,rfl,⟨ub26_ h,rfl⟩,v,rfl,rfl⟩
theorem ucdq_ {s:Str} {v:Int} (h:Lib.atoiAll s=.ok v):und_ .i64 v:=by
 unfold Lib.atoiAll at h
 split at h
 · cases h
 · simp only at h
   split at h
   · cases h
   · cases h
   · rename_i u hu
     split at h
     · cases h
     · split at h
       · cases h
       · cases h
         split <;> exact ub6z_ (by omega) (by omega)
theorem ub60_ (s:Str):und_ .i64 (Lib.atoiSat s):=by
 unfold Lib.atoiSat
 split <;> exact ub6z_ (by decide) (by decide)
theorem strconv_Atoi_ok:ugs_ Go.Proofs.Tryz.prog 368∧FunOK Go.Proofs.Tryz.prog 368 ubif_:=by
 refine ⟨uvo_ Tryz.func368 (by kernel_rfl) (by kernel_rfl),FunOK.given fun w I v args bs hm hsh r hr=>?_⟩
 obtain ⟨rfl,x,rfl,hx⟩:=in1 hsh
 obtain ⟨rfl,h0⟩:=ubee_ hx
 obtain ⟨h2,hr⟩:=u5l_ hr
 have hs:(⟨Array.mk v⟩:ByteArray).size≤281474976710656:=by have:=ub6x_ (a:=v) (n:=281474976710657) (by omega); exact Nat.le_of_lt_succ this
 refine ⟨rfl,?_⟩
 obtain ⟨_,_,_,_,⟨e5,h5,h5'⟩,e6,h6,h6'⟩:=facts hm
 cases hn:Lib.atoiAll v
 · rename_i n
   rw [hn] at hr
   dsimp only at hr
   cases hr
   refine (Tryz.strconv_Atoi_ok ⟨v.toArray⟩ (Nat.le_trans hs (by decide)) n hn w).mono fun e w' ⟨he,hw⟩=>⟨_,[_,_],noX,he,rfl,rfl,?_,(fun h=>by cases h),ub1l_,ub1o_ (ucdq_ hn) _⟩
   rcases hw with rfl | ⟨t,rfl⟩
   · exact Below.refl _ _
   · exact ub33_ _ _ _
 · rw [hn] at hr
   dsimp only at hr
   cases hr
   exact (Tryz.strconv_Atoi_syntax ⟨v.toArray⟩ hs hn e5 w h5 h5').mono fun e w' ⟨N,he,_,_,hw⟩=>⟨_,[_,_],noX,he,rfl,rfl,hw,(fun h=>by cases h),ub1l_,ub1o_ (ub6z_ (by decide) (by decide)) _⟩
 · rw [hn] at hr
   dsimp only at hr
   cases hr
   exact (Tryz.strconv_Atoi_range ⟨v.toArray⟩ hs hn e6 w h6 h6').mono fun e w' ⟨N,he,_,_,hw⟩=>⟨_,[_,_],noX,he,rfl,rfl,hw,(fun h=>by cases h),ub1l_,ub1o_ (ub60_ v) _⟩
theorem ub61_ {P:Program} {w:World} {I:Im} {X:Nat→Nat→Prop} {b cap:Nat} {xs:List Str} {cells:Array Value} {el:TypeId} {fz:Nat×Nat} (hb:w.heap[b]? = some (.cells cells el fz)) (hlen:xs.length≤cap) (hl:xs.length≤281474976710656)
 (hc:∀ (i:Nat) x,xs[i]? = some x→cells[i]? = some (.string ⟨x.toArray⟩)) (hs:∀ x∈xs,x.length≤281474976710656) (hX:∀ o,o<xs.length→X b o) :
 VRel w (imNew I X) (.slice .str) xs (.slice (some ⟨b,0,none⟩) xs.length cap):=by
 refine ⟨_,rfl,_,_,rfl,⟨hlen,hl⟩,(fun h=>by cases h),fun ad had=>?_⟩
 cases had
 refine ⟨fun _=>rfl,fun i x hx=>⟨[.string ⟨(show Str from x).toArray⟩],⟨rfl,fun j hj=>?_⟩,rfl,hs x (List.mem_of_getElem? hx)⟩⟩
 have hj0:j=0:=by have:j<1:=hj; omega
 subst hj0
 have e:(0+i*Ty.str.sz+0)=i:=by show 0+i*1+0=i; omega
 have hi:i<xs.length:=(List.getElem?_eq_some_iff.1 hx).1
 refine ⟨.inr ?_,?_⟩
 · rw [e]; exact hX i hi
 · show w.cell? ⟨b,0+i*Ty.str.sz+0,none⟩=_
   rw [e]
   simp only [World.cell?,hb,hc i x hx]
   rfl
theorem ub62_ (sep:ByteArray) (h1:1≤sep.size):∀ (k:Nat) (s:ByteArray),Lib.countB s sep=k→(Lib.splitB sep 0 k s).length=k+1:=by
 intro k
 induction k with
 | zero=>intro s _; rfl
 | succ k ih =>
   intro s hk
   by_cases hm:Lib.indexB s sep = -1
   · rw [Lib.countB_miss s sep hm] at hk; cases hk
   · have hge:=Lib.index_ge s.data.toList sep.data.toList
     obtain ⟨i,hi⟩:∃ i:Nat,Lib.indexB s sep=i:=⟨(Lib.indexB s sep).toNat,by have:-1≤Lib.indexB s sep:=hge; omega⟩
     rw [Lib.splitB_hit sep 0 k s i hi,List.length_cons,ih]
     have:=Lib.countB_hit s sep i h1 hi
     omega
theorem ub63_ (sep:ByteArray) (n:Nat):∀ (k:Nat) (s:ByteArray),s.size≤n→∀ x∈Lib.splitB sep 0 k s,x.size≤n:=by
 intro k
 induction k with
 | zero=>intro s hs x hx; rw [Lib.splitB_zero,List.mem_singleton] at hx; subst hx; exact hs
 | succ k ih =>
   intro s hs x hx
   unfold Lib.splitB at hx
   split at hx
   · rw [List.mem_singleton] at hx; subst hx; exact hs
   · rcases List.mem_cons.1 hx with rfl | hx
     · rw [ByteArray.size_extract]; omega
     · exact ih _ (by rw [ByteArray.size_extract]; omega) x hx
def u1x_:FSpec:=⟨[.val .str,.val .str],[.val (.slice .str)],strings_Split,true⟩
theorem ubeg_:ugs_ Go.Proofs.Tryz.prog 186∧FunOK Go.Proofs.Tryz.prog 186 u1x_:=by
 refine ⟨uvo_ Tryz.func186 (by kernel_rfl) (by kernel_rfl),FunOK.given fun w I v args bs hm hsh r hr=>?_⟩
 obtain ⟨rfl,x,y,rfl,hx,hy⟩:=in2 hsh
 obtain ⟨rfl,h0⟩:=ubee_ hx
 obtain ⟨rfl,h1⟩:=ubee_ hy
 obtain ⟨⟨h2,h3⟩,hr⟩:=u5l_ hr
 cases hr
 obtain ⟨m,hmm⟩:=(facts hm).2.2.2.1
 have h3':1≤(⟨Array.mk v.2⟩:ByteArray).size:=h3
 have hlen:=ub62_ ⟨Array.mk v.2⟩ h3' _ ⟨Array.mk v.1⟩ rfl
 refine ⟨rfl,(Tryz.strings_Split ⟨v.1.toArray⟩ ⟨v.2.toArray⟩ m w (ub6x_ h2) hmm h3').mono fun e w' ⟨he,hw⟩=>?_⟩
 have hs1:w'.heap[w.heap.size]? = some (.cells ((Lib.splitB ⟨v.2.toArray⟩ 0 (Lib.countB ⟨v.1.toArray⟩ ⟨v.2.toArray⟩) ⟨v.1.toArray⟩).map Value.string).toArray 9 (0,0)):=by
  rw [hw]
  show (w.heap.push _)[w.heap.size]? = _
  rw [Array.getElem?_push_size]
 have hbl:Below w.heap.size w w':=by rw [hw]; exact (Below.refl _ _).alloc (Nat.le_refl _) _
 refine ⟨_,[_],fun b o=>b=w.heap.size,he,rfl,rfl,hbl,?_,?_,out1 ?_⟩
 · intro _; rw [hw]; exact Nat.le_refl _
 · rintro b o rfl; exact ⟨Nat.le_refl _,ub6w_ hs1⟩
 · have hcnt:Lib.countB ⟨Array.mk v.1⟩ ⟨Array.mk v.2⟩≤v.1.length+1:=Lib.count_le v.1 v.2
   have:=ub61_ (P:=Tryz.prog) (I:=I) (X:=fun b o=>b=w.heap.size) (xs:=(Lib.splitB ⟨v.2.toArray⟩ 0 (Lib.countB ⟨v.1.toArray⟩ ⟨v.2.toArray⟩) ⟨v.1.toArray⟩).map fun b=>b.data.toList)
    (cap:=Lib.countB ⟨v.1.toArray⟩ ⟨v.2.toArray⟩+1) hs1 ?_ ?_ ?_ ?_ (fun o _=>rfl)
   · rw [List.length_map] at this
     rw [hlen] at this
     exact this
   · rw [List.length_map]; exact Nat.le_of_eq hlen
   · rw [List.length_map]; refine Nat.le_trans (Nat.le_of_eq hlen) ?_
     have h2':v.1.length<4294967281:=h2
     omega
   · intro i x hx
     rw [List.getElem?_map] at hx
     cases hb:(Lib.splitB ⟨v.2.toArray⟩ 0 (Lib.countB ⟨v.1.toArray⟩ ⟨v.2.toArray⟩) ⟨v.1.toArray⟩)[i]? with
     | none=>rw [hb] at hx; cases hx
     | some b=>rw [hb] at hx; cases hx; simp [hb]
   · intro x hx
     obtain ⟨b,hb,rfl⟩:=List.mem_map.1 hx
     have:=ub63_ ⟨v.2.toArray⟩ v.1.length _ ⟨v.1.toArray⟩ (Nat.le_of_eq (uwa_ v.1)) b hb
     have e:b.data.toList.length=b.size:=rfl
     rw [e]
     exact Nat.le_trans this h0
theorem ucdr_ {w:World} {I:Im} {xs:List Str} {v:Value} (h:VRel w I (.slice .str) xs v) :
 (∃ a cap,v=.slice a 0 cap∧xs=[])∨∃ b o cap,v=.slice (some ⟨b,o,none⟩) xs.length cap∧b<w.heap.size∧xs.length≤cap ∧
  ∀ (j:Nat) x,xs[j]? = some x→w.cell? ⟨b,o+j,none⟩=some (.string ⟨x.toArray⟩)∧x.length≤281474976710656:=by
 obtain ⟨c,h1,a,cap,h2,h3,h4,h5⟩:=h
 have h1:c=[v]:=h1
 rw [h1] at h2
 have h2:v=.slice a xs.length cap:=List.singleton_inj.1 h2
 by_cases he:xs=[]
 · subst he; exact .inl ⟨a,cap,h2,rfl⟩
 · right
   cases a with
   | none=>exact absurd (h4 rfl).1 he
   | some ad =>
     obtain ⟨hsp,h6⟩:=h5 ad rfl
     obtain ⟨b,o,sp⟩:=ad
     have hsp:(⟨b,o,sp⟩:Addr).spot=none:=hsp fun h0=>he (List.eq_nil_of_length_eq_zero (Nat.le_zero.1 (h0▸h3.1)))
     cases hsp
     have key:∀ (j:Nat) x,xs[j]? = some x→w.cell? ⟨b,o+j,none⟩=some (.string ⟨x.toArray⟩)∧x.length≤281474976710656:=by
      intro j x hx
      obtain ⟨c',⟨k1,k2⟩,k3,k4⟩:=h6 j x hx
      have:=(k2 0 Nat.one_pos).2
      rw [k3] at this
      exact ⟨by rw [← show o+j*Ty.str.sz+0=o+j by show o+j*1+0=o+j; omega]; exact this,k4⟩
     have hpos:0<xs.length:=List.length_pos_iff.2 he
     exact ⟨b,o,cap,h2,ubzx_ (key 0 xs[0] (List.getElem?_eq_getElem hpos)).1,h3.1,key⟩
def ul6_:FSpec:=⟨[.val (.slice .str),.val .str],[.val .str],strings_Join,false⟩
theorem uqh_:ugs_ Go.Proofs.Tryz.prog 189∧FunOK Go.Proofs.Tryz.prog 189 ul6_:=by
 refine ⟨uvo_ Tryz.func189 (by kernel_rfl) (by kernel_rfl),FunOK.flat1 (t:=.str) rfl rfl (fun args=>by rcases args with _ | ⟨_,_ | ⟨_,_⟩⟩ <;> rfl) fun w I v args bs hm hsh r hr=>?_⟩
 obtain ⟨rfl,x,y,rfl,hx,hy⟩:=in2 hsh
 obtain ⟨rfl,h1⟩:=ubee_ hy
 obtain ⟨⟨h2,h3⟩,hr⟩:=u5l_ hr
 cases hr
 obtain ⟨xs,sep⟩:List Str×Str:=v
 have h3:(Lib.join xs sep).length≤140737488355328:=h3
 have hout:(Lib.join xs sep).length≤281474976710656:=by omega
 rcases ucdr_ hx with ⟨a,cap,rfl,hxs⟩ | ⟨b,o,cap,rfl,hb,hcap,hcell⟩
 · have hxs:xs=[]:=hxs
   subst hxs
   have e:Lib.join [] sep=[]:=by simp [Lib.join,List.intercalate]
   refine ⟨rfl,.string ⟨(Lib.join [] sep).toArray⟩,fun w' I'=>out1 (ubef_ hout),?_⟩
   rw [e]
   exact (Tryz.strings_Join_none a cap ⟨sep.toArray⟩ w).mono fun e w' ⟨he,hw⟩=>⟨he,ubtf_ hw⟩
 · refine ⟨rfl,.string ⟨(Lib.join xs sep).toArray⟩,fun w' I'=>out1 (ubef_ hout),?_⟩
   have hm1:(xs.map fun x=>(⟨x.toArray⟩:ByteArray)).map (fun b=>b.data.toList)=xs:=by
    rw [List.map_map]; exact List.map_id _
   have:=Tryz.strings_Join b o cap (xs.map fun x=>⟨x.toArray⟩) ⟨sep.toArray⟩ w (fun j x hx=>by
    rw [List.getElem?_map] at hx
    cases hj:xs[j]? with
    | none=>rw [hj] at hx; cases hx
    | some z=>rw [hj] at hx; cases hx; exact (hcell j z hj).1) hb (by rw [List.length_map]; exact h2) (by rw [List.length_map]; exact hcap) (by rw [hm1]; exact h3)
   rw [hm1,List.length_map] at this
   exact this.mono fun e w' ⟨he,hw⟩=>⟨he,hw,fun h=>by cases h⟩
theorem After.toBelow {gv:Nat→Prop} {w w':World} {I I':Im} (h:After gv w I w' I') (hg:∀ b,¬ gv b):Below w.heap.size w w' :=
 ⟨h.os,h.tape,h.output,h.size,fun b hb=>h.heap b hb (hg b)⟩
theorem ub9c_ {w w':World} {I:Im} (hm:Mem w I) (hb:Below w.heap.size w w'):Ext w I w' I∧Mem w' I:=by
 have he:Ext w I w' I:=⟨fun b o h=>⟨h,by simp only [World.cell?,hb.block b (hm.1 b o h)]⟩,fun b h=>⟨h,hb.block b (hm.2.1 b h)⟩⟩
 exact ⟨he,fun b o h=>Nat.lt_of_lt_of_le (hm.1 b o h) hb.size,fun b h=>Nat.lt_of_lt_of_le (hm.2.1 b h) hb.size,hm.2.2.ext he⟩
theorem ub34_ {P:Program} {g:Nat} (h:ugs_ P g):∀ args w,(callFunc g args).run P w=.ok (.enter g args) w:=by
 obtain ⟨fn,c,h1,h2,h3⟩:=h
 intro args w
 have h2':fn.name≠"runtime.NumGoroutine" := by simpa using h2
 simp [callFunc,h1,h2',h3]
theorem ub64_ (p:Nat→Bool) (s:ByteArray):∀ x∈Lib.goFieldsP p s,x.size≤s.size:=by
 intro x hx
 obtain ⟨q,_,rfl⟩:=List.mem_map.1 hx
 rw [ByteArray.size_extract]; omega
noncomputable def uzv_:FSpec:=⟨[.val .str,.hof false (.int .i32) .bool],[.val (.slice .str)],uof_,false⟩
theorem ubgo_:ugs_ Go.Proofs.Tryz.prog 372∧FunOK Go.Proofs.Tryz.prog 372 uzv_:=by
 refine ⟨uvo_ Tryz.func372 (by kernel_rfl) (by kernel_rfl),FunOK.given fun w I v args bs hm hsh r hr=>?_⟩
 obtain ⟨a1,vs,b1,b2,rfl,rfl,⟨hx,rfl⟩,a2,rfl,rfl,g,lb,ha2,hent,hof⟩:=hsh
 obtain ⟨rfl,h0⟩:=ubee_ hx
 obtain rfl:=List.singleton_inj.1 ha2
 obtain ⟨s,F⟩:Str×(Int→Option Bool):=v
 have hr:uof_ (s,F)=some r:=hr
 unfold uof_ at hr
 obtain ⟨⟨h1,h2,h3⟩,hr⟩:=u5l_ hr
 cases hr
 have hp:PredGrows Tryz.prog g lb (fun r=>(F (r:Int)).getD false) w:=by
  intro W x hx hb
  obtain ⟨he,hm'⟩:=ub9c_ hm hb
  obtain ⟨b,hb'⟩:=h2 x hx
  have hb':F (x:Int)=some b:=hb'
  have:=hof W I he hm' (x:Int) [.int .i32 x] ⟨_,rfl,ub26_ ⟨by show (-2147483648:Int)≤_; omega,by show _≤(2147483647:Int); omega⟩⟩ b hb'
  refine this.mono fun e w'' ⟨rv,I'',k1,k2,k3,_⟩=>?_
  have hrv:=ucdo_ k3
  subst hrv
  show e=.returned (.bool ((F (x:Int)).getD false))∧_
  rw [hb']
  exact ⟨k1,After.toBelow k2 fun _ h=>h⟩
 have:=Any.strings_FieldsFunc_grows Tryz.lays229 g lb (ub34_ hent) (fun r=>(F (r:Int)).getD false) ⟨s.toArray⟩ w (by rw [uwa_]; exact h1) hp (by kernel_rfl) (by kernel_rfl)
 refine ⟨rfl,this.mono fun e w' ⟨A,he,hA,hown,hbl⟩=>?_⟩
 obtain ⟨_,hh | ⟨g',cap,cur,k1,k2,k3,k4,k5,k6,k7⟩⟩:=hown
 · cases hh.1
 · obtain ⟨rfl,rfl⟩:A=g'∧(Lib.goFieldsP (fun r=>(F (r:Int)).getD false) ⟨s.toArray⟩).length=cap:=by injection k1 with e1 e2 e3; injection e1 with e1; injection e1 with e1; exact ⟨e1,e3⟩
   refine ⟨_,[_],fun b o=>b=A,he,rfl,rfl,hbl,(fun h=>by cases h),?_,out1 ?_⟩
   · rintro b o rfl; exact ⟨hA,ub6w_ k3⟩
   · have:=ub61_ (P:=Tryz.prog) (I:=I) (X:=fun b o=>b=A) (xs:=(Lib.goFieldsP (fun r=>(F (r:Int)).getD false) ⟨s.toArray⟩).map fun b=>b.data.toList)
      (cap:=(Lib.goFieldsP (fun r=>(F (r:Int)).getD false) ⟨s.toArray⟩).length) k3 (by rw [List.length_map]; exact Nat.le_refl _) (by rw [List.length_map]; exact h3) ?_ ?_ (fun o _=>rfl)
     · rw [List.length_map] at this
       exact this
     · intro i x hx
       rw [List.getElem?_map] at hx
       cases hb:(Lib.goFieldsP (fun r=>(F (r:Int)).getD false) ⟨s.toArray⟩)[i]? with
       | none=>rw [hb] at hx; cases hx
       | some b =>
         rw [hb] at hx
         cases hx
         have hi:=(List.getElem?_eq_some_iff.1 hb).1
         have:=congrArg (fun l=>l[i]?) k7
         simp only [List.getElem?_take,List.getElem?_map,hb] at this
         rw [if_pos (by omega)] at this
         simpa using this
     · intro x hx
       obtain ⟨b,hb,rfl⟩:=List.mem_map.1 hx
       have:=ub64_ _ ⟨s.toArray⟩ b hb
       rw [uwa_] at this
       have e:b.data.toList.length=b.size:=rfl
       rw [e]
       exact Nat.le_trans this h0
theorem ubzy_ {el:TypeId} (h:Lay Tryz.prog (.agg bldTy) el):el=329:=by
 have hall:((List.range Tryz.prog.types.size).all fun i=>!(layB Tryz.prog (.agg bldTy)).1 i||Nat.beq i 329)=true:=by kernel_rfl
 have hlt:el<Tryz.prog.types.size:=ucee_ h.inf rfl
 have h1:=List.all_eq_true.1 hall el (List.mem_range.2 hlt)
 have h2:(layB Tryz.prog (.agg bldTy)).1 el=true:=h
 rw [h2] at h1
 exact Nat.eq_of_beq_eq_true h1
set_option maxHeartbeats 1000000 in
set_option maxRecDepth 100000 in
theorem ucds_ (b:Nat) (w:World) (h0:w.cell? ⟨b,0,none⟩=some (.pointer (some ⟨b,0,none⟩))) :
 Calls Tryz.prog 243 #[.pointer (some ⟨b,0,none⟩)] w fun e w'=>e=.returned (.tuple #[])∧w'=w:=by
 have mixed:Tryz.prog.follows .mixedOrders=true:=by kernel_rfl
 have t72:=Tryz.underlying329; have a72:=Tryz.isAgg329; have z72:=Tryz.sizeOf329; have v72:=Tryz.zeroValue329; have u72:=run_underlying Tryz.underlying329
 have t70:=Tryz.underlying326; have a70:=Tryz.isAgg326; have z70:=Tryz.sizeOf326; have v70:=Tryz.zeroValue326; have u70:=run_underlying Tryz.underlying326
 have t4:=Tryz.underlying4; have a4:=Tryz.isAgg4; have z4:=Tryz.sizeOf4; have v4:=Tryz.zeroValue4; have u4:=run_underlying Tryz.underlying4
 obtain ⟨j,hj,_⟩:=Option.map_eq_some_iff.1 (show (Tryz.prog.info? 329).map (·.size)=some 2 by kernel_rfl)
 go_enter Tryz.func243,Tryz.ntmps243
 go_wp2
 rw [Lib.run_neq_ptr_same w _ Tryz.underlying326 hj]
 go_wp2
 go_end0
 exact ⟨rfl,rfl⟩
set_option maxHeartbeats 1000000 in
set_option maxRecDepth 100000 in
theorem ucb1_ (b:Nat) (w:World) (h0:w.cell? ⟨b,0,none⟩=some (.pointer none)) (hsh:w.shape? b=some (329,2)) (hfz:w.frozen? ⟨b,0,none⟩=false) :
 Calls Tryz.prog 243 #[.pointer (some ⟨b,0,none⟩)] w fun e w'=>e=.returned (.tuple #[])∧w'=w.setCell ⟨b,0,none⟩ (.pointer (some ⟨b,0,none⟩)):=by
 obtain ⟨j,hj,hjs⟩:=Option.map_eq_some_iff.1 (show (Tryz.prog.info? 329).map (·.size)=some 2 by kernel_rfl)
 have mixed:Tryz.prog.follows .mixedOrders=true:=by kernel_rfl
 have t72:=Tryz.underlying329; have a72:=Tryz.isAgg329; have z72:=Tryz.sizeOf329; have v72:=Tryz.zeroValue329; have u72:=run_underlying Tryz.underlying329
 have t70:=Tryz.underlying326; have a70:=Tryz.isAgg326; have z70:=Tryz.sizeOf326; have v70:=Tryz.zeroValue326; have u70:=run_underlying Tryz.underlying326
 have t4:=Tryz.underlying4; have a4:=Tryz.isAgg4; have z4:=Tryz.sizeOf4; have v4:=Tryz.zeroValue4; have u4:=run_underlying Tryz.underlying4
 have t164:=Tryz.underlying452; have a164:=Tryz.isAgg452; have z164:=Tryz.sizeOf452; have v164:=Tryz.zeroValue452; have u164:=run_underlying Tryz.underlying452
 go_enter Tryz.func243,Tryz.ntmps243
 go_wp2
 rw [Lib.run_to_unsafe w ⟨b,0,none⟩ Tryz.underlying326 Tryz.underlying452 hj (by rw [hjs]; decide) hsh (Nat.zero_lt_succ 1)]
 simp only [Result.andThen]
 rw [Oper.upon_value]
 go_wp2
 rw [run_callFunc_extern Tryz.func295 (by kernel_rfl) (by kernel_rfl) (by kernel_rfl) (e:=Extern.AbiNoEscape.same) (by kernel_rfl)]
 rw [Lib.run_noEscape]
 simp only [Result.andThen]
 rw [Oper.upon_value]
 go_wp2
 rw [Lib.run_from_unsafe w ⟨b,0,none⟩ Tryz.underlying452 Tryz.underlying326 hj hsh (by kernel_rfl)]
 simp only [Result.andThen]
 rw [Oper.upon_value]
 go_wp2
 go_end0
 exact ⟨rfl,rfl⟩
theorem cell1 {w:World} {b:Nat} {cells:Array Value} {p q:Value} {el:TypeId} {fz:Nat×Nat} (hb:w.heap[b]? = some (.cells cells el fz)) (hc:cells.toList=[p,q]) :
 w.cell? ⟨b,0,none⟩=some p∧w.cell? ⟨b,1,none⟩=some q:=by
 have:cells = #[p,q]:=by apply Array.ext'; exact hc
 subst this
 exact ⟨by simp only [World.cell?,hb]; rfl,by simp only [World.cell?,hb]; rfl⟩
set_option maxHeartbeats 2000000 in
set_option maxRecDepth 100000 in
theorem ucev_ (b g cap:Nat) (l:List UInt8) (w:World) (cur:Array Value) (fz:Nat×Nat) (hb:w.cell? ⟨b,1,none⟩=some (.slice (some ⟨g,0,none⟩) l.length cap)) (h0:l≠[])
 (hg:w.heap[g]? = some (.cells cur 5 fz)) (hcap:l.length≤cap) (hcs:cur.size=cap) (hmax:l.length≤281474976710656) (hx:∀ (j:Nat) x,l[j]? = some x→cur[j]? = some (.int .u8 x.toNat)) :
 Calls Tryz.prog 193 #[.pointer (some ⟨b,0,none⟩)] w fun e w'=>e=.returned (.string ⟨l.toArray⟩)∧w'=w.drew.freeze ⟨g,0,none⟩ l.length:=by
 have hl0:l.length≠0:=by simpa using h0
 have c1:w.drew.cell? ⟨b,1,none⟩=some (.slice (some ⟨g,0,none⟩) l.length cap):=hb
 have hSD:(Builtin.unsafeSliceData_ #[327] 397 #[.slice (some ⟨g,0,none⟩) l.length cap]).run Tryz.prog w.drew=.ok (.pointer (some ⟨g,0,none⟩)) w.drew :=
  Lib.run_unsafeSliceData_row _ _ _ _ _ _ (by omega)
 have hUS:(Builtin.unsafeString_ #[397,3] 9 #[.pointer (some ⟨g,0,none⟩),.int .i64 l.length]).run Tryz.prog w.drew=.ok (.string ⟨l.toArray⟩) (w.drew.freeze ⟨g,0,none⟩ l.length):=by
  refine Lib.run_unsafeString_row w.drew 397 3 9 5 Tryz.underlying397 (by kernel_rfl) g cur.size (by have hg':w.drew.heap[g]? = some (.cells cur 5 fz):=hg; simp [World.shape?,hg']) l h0 (by omega) (by omega) ?_
  intro j x hj
  have hg':w.drew.heap[g]? = some (.cells cur 5 fz):=hg
  have ha:(⟨g,0,none⟩:Addr).add j=⟨g,j,none⟩:=by simp [Addr.add]; exact fun h=>h.symm
  rw [ha]
  simp only [World.cell?,hg',hx j x hj]
  rfl
 clear hx hcs hg hcap hmax h0
 have mixed:Tryz.prog.follows .mixedOrders=true:=by kernel_rfl
 have t72:=Tryz.underlying329; have a72:=Tryz.isAgg329; have z72:=Tryz.sizeOf329; have v72:=Tryz.zeroValue329; have u72:=run_underlying Tryz.underlying329
 have t70:=Tryz.underlying326; have a70:=Tryz.isAgg326; have z70:=Tryz.sizeOf326; have v70:=Tryz.zeroValue326; have u70:=run_underlying Tryz.underlying326
 have t37:=Tryz.underlying327; have a37:=Tryz.isAgg327; have z37:=Tryz.sizeOf327; have v37:=Tryz.zeroValue327; have u37:=run_underlying Tryz.underlying327
 have t127:=Tryz.underlying397; have a127:=Tryz.isAgg397; have z127:=Tryz.sizeOf397; have v127:=Tryz.zeroValue397; have u127:=run_underlying Tryz.underlying397
 have t3:=Tryz.underlying3; have a3:=Tryz.isAgg3; have z3:=Tryz.sizeOf3; have v3:=Tryz.zeroValue3; have u3:=run_underlying Tryz.underlying3
 have t9:=Tryz.underlying9; have a9:=Tryz.isAgg9; have z9:=Tryz.sizeOf9; have v9:=Tryz.zeroValue9; have u9:=run_underlying Tryz.underlying9
 have t5:=Tryz.underlying5; have a5:=Tryz.isAgg5; have z5:=Tryz.sizeOf5; have v5:=Tryz.zeroValue5; have u5:=run_underlying Tryz.underlying5
 go_enter Tryz.func193,Tryz.ntmps193
 go_wp2
 go_region_o
 all_goals (go_wp2; go_ret; exact ⟨rfl,rfl⟩)
set_option maxHeartbeats 2000000 in
set_option maxRecDepth 100000 in
theorem ub9d_ (b g:Nat) (w:World) (cur:Array Value) (fz:Nat×Nat) (hb:w.cell? ⟨b,1,none⟩=some (.slice (some ⟨g,0,none⟩) 0 0)) (hg:w.heap[g]? = some (.cells cur 5 fz)) :
 Calls Tryz.prog 193 #[.pointer (some ⟨b,0,none⟩)] w fun e w'=>e=.returned (.string ⟨#[]⟩)∧Below w.heap.size w w':=by
 have hUS:∀ (W:World) (q:Option Addr),(Builtin.unsafeString_ #[397,3] 9 #[.pointer q,.int .i64 0]).run Tryz.prog W=.ok (.string .empty) W:=fun W q=>Lib.run_unsafeString_none W _ _ _ q
 have hlt:=ubzx_ hb
 have c1:w.drew.cell? ⟨b,1,none⟩=some (.slice (some ⟨g,0,none⟩) 0 0):=hb
 have hSD:(Builtin.unsafeSliceData_ #[327] 397 #[.slice (some ⟨g,0,none⟩) 0 0]).run Tryz.prog w.drew=.ok (.pointer (some ⟨w.drew.heap.size,0,none⟩)) (w.drew.alloc (.view ⟨g,0,none⟩ 5)) :=
  Lib.run_unsafeSliceData_zero w.drew _ _ 5 Tryz.underlying397 ⟨g,0,none⟩ 0 (5,cur.size) (by have hg':w.drew.heap[g]? = some (.cells cur 5 fz):=hg; simp [World.shape?,hg'])
 have hB:Below w.heap.size w (w.drew.alloc (.view ⟨g,0,none⟩ 5)):=(Below.drew (Below.refl _ w)).alloc (Nat.le_refl _) _
 have c2:(w.drew.alloc (.view ⟨g,0,none⟩ 5)).cell? ⟨b,1,none⟩=some (.slice (some ⟨g,0,none⟩) 0 0):=(hB.cell hlt).trans hb
 have c3:(w.alloc (.view ⟨g,0,none⟩ 5)).drew.cell? ⟨b,1,none⟩=some (.slice (some ⟨g,0,none⟩) 0 0):=c2
 have mixed:Tryz.prog.follows .mixedOrders=true:=by kernel_rfl
 have t72:=Tryz.underlying329; have a72:=Tryz.isAgg329; have z72:=Tryz.sizeOf329; have v72:=Tryz.zeroValue329; have u72:=run_underlying Tryz.underlying329
 have t70:=Tryz.underlying326; have a70:=Tryz.isAgg326; have z70:=Tryz.sizeOf326; have v70:=Tryz.zeroValue326; have u70:=run_underlying Tryz.underlying326
 have t37:=Tryz.underlying327; have a37:=Tryz.isAgg327; have z37:=Tryz.sizeOf327; have v37:=Tryz.zeroValue327; have u37:=run_underlying Tryz.underlying327
 have t127:=Tryz.underlying397; have a127:=Tryz.isAgg397; have z127:=Tryz.sizeOf397; have v127:=Tryz.zeroValue397; have u127:=run_underlying Tryz.underlying397
 have t3:=Tryz.underlying3; have a3:=Tryz.isAgg3; have z3:=Tryz.sizeOf3; have v3:=Tryz.zeroValue3; have u3:=run_underlying Tryz.underlying3
 have t9:=Tryz.underlying9; have a9:=Tryz.isAgg9; have z9:=Tryz.sizeOf9; have v9:=Tryz.zeroValue9; have u9:=run_underlying Tryz.underlying9
 have t5:=Tryz.underlying5; have a5:=Tryz.isAgg5; have z5:=Tryz.sizeOf5; have v5:=Tryz.zeroValue5; have u5:=run_underlying Tryz.underlying5
 go_enter Tryz.func193,Tryz.ntmps193
 go_wp2
 go_region_o
 all_goals (go_wp2; go_ret; exact ⟨rfl,hB⟩)
theorem After.only {w w':World} {I:Im} (hm:Mem w I) {b:Nat} {bs:List Nat} (hb:b∈bs) (hI:∀ o,¬ I.cell b o) (hO:¬ I.obj b) (hh:∀ k,k≠b→w'.heap[k]? = w.heap[k]?) (hs:w'.heap.size=w.heap.size)
 (hos:w'.os=w.os) (ht:w'.tape=w.tape) (ho:w'.output=w.output):After (·∈bs) w I w' I:=by
 have hx:Ext w I w' I:=⟨fun k o h=>⟨h,by simp only [World.cell?,hh k (fun e=>hI o (e▸h))]⟩,fun k h=>⟨h,hh k (fun e=>hO (e▸h))⟩⟩
 exact ⟨hx,fun k _ hk=>hh k (fun e=>hk (e▸hb)),Nat.le_of_eq hs.symm,fun _ _ h=>.inl h,fun _ h=>.inl h,fun k o h=>hs▸hm.1 k o h,fun k h=>hs▸hm.2.1 k h,hos,ht,ho,hm.2.2.ext hx⟩
theorem ub35_ {w:World} {b o:Nat} {v:Value} {k:Nat} (h:k≠b):(w.setCell ⟨b,o,none⟩ v).heap[k]? = w.heap[k]?:=Below.heap_setCell w ⟨b,o,none⟩ v k h
def uhd_:FSpec:=⟨[.bld 5 false],[],ujm_,false⟩
theorem unp_:ugs_ Go.Proofs.Tryz.prog 243∧FunOK Go.Proofs.Tryz.prog 243 uhd_:=by
 refine ⟨uvo_ Tryz.func243 (by kernel_rfl) (by kernel_rfl),fun w I v args bs hm hsh hnd r hr=>?_⟩
 cases hr
 obtain ⟨v1,rfl,b,cells,el,p,q,bs',e1,rfl,h1,hlay,h2,hp,h4,h5,h6⟩:=hsh
 obtain rfl:=List.singleton_inj.1 e1
 obtain rfl:=ubzy_ hlay
 obtain ⟨c0,c1⟩:=cell1 h1 h2
 have hnd':=List.nodup_cons.1 hnd
 rcases hp with rfl | rfl
 · have hsh:w.shape? b=some (329,2):=by
    have:cells.size=2:=by rw [← Array.length_toList,h2]; rfl
    simp [World.shape?,h1,this]
   refine (ucb1_ b w c0 hsh (by simp [World.frozen?,h1])).mono fun e w' ⟨he,hw⟩=>?_
   have hh:∀ k,k≠b→w'.heap[k]? = w.heap[k]?:=fun k hk=>by rw [hw]; exact ub35_ hk
   have hs:w'.heap.size=w.heap.size:=by rw [hw]; simp [World.setCell]
   have hbk:w'.heap[b]? = some (.cells #[.pointer (some ⟨b,0,none⟩),q] 329 (0,0)):=by
    have hc:cells = #[.pointer none,q]:=by apply Array.ext'; exact h2
    subst hc
    rw [hw]
    simp only [World.setCell,Array.getElem?_modify,h1]
    simp
   refine ⟨_,[],I,b::bs',he,rfl,rfl,After.only hm List.mem_cons_self h4 h5 hh hs (by rw [hw]; rfl) (by rw [hw]; rfl) (by rw [hw]; rfl),?_,hnd,fun b hb=>.inl hb,fun h=>by cases h⟩
   refine ⟨_,rfl,b,_,329,_,q,bs',rfl,rfl,hbk,hlay,rfl,.inr rfl,h4,h5,?_⟩
   rcases h6 with h6 | ⟨g,cap,gc,k1,k2,k3,⟨fz,k4,k4'⟩,k5,k6,k7,k8⟩
   · exact .inl h6
   · have hgb:g≠b:=by rw [k2] at hnd'; intro e; exact hnd'.1 (by rw [e]; exact List.mem_singleton_self _)
     refine .inr ⟨g,cap,gc,k1,k2,k3,⟨fz,(hh g hgb).trans k4,k4'⟩,k5,?_,k7,k8⟩
     have hx:Ext w I w' I:=(After.only hm (bs:=b::bs') List.mem_cons_self h4 h5 hh hs (by rw [hw]; rfl) (by rw [hw]; rfl) (by rw [hw]; rfl)).ext
     exact fun i x hx'=>(k6 i x hx').ext hx
 · refine (ucds_ b w c0).mono fun e w' ⟨he,hw⟩=>?_
   subst hw
   refine ⟨_,[],I,b::bs',he,rfl,rfl,After.refl hm,?_,hnd,fun b hb=>.inl hb,fun h=>by cases h⟩
   exact ⟨_,rfl,b,cells,329,_,q,bs',rfl,rfl,h1,hlay,h2,.inr rfl,h4,h5,h6⟩
theorem ub65_ {w:World} {b n:Nat} {k:Nat} (h:k≠b):(w.freeze ⟨b,0,none⟩ n).heap[k]? = w.heap[k]?:=by
 unfold World.freeze
 split
 · rfl
 · simp only [Array.getElem?_modify]
   rw [if_neg (fun e=>h e.symm)]
theorem ub36_ {w:World} {a:Addr} {n:Nat}:(w.freeze a n).heap.size=w.heap.size:=by
 unfold World.freeze
 split
 · rfl
 · simp
theorem ub9e_ {w:World} {a:Addr} {n:Nat}:(w.freeze a n).os=w.os∧(w.freeze a n).tape=w.tape∧(w.freeze a n).output=w.output:=by
 unfold World.freeze
 split <;> exact ⟨rfl,rfl,rfl⟩
theorem ucb2_ {xs:List Int} (h:∀ x∈xs,und_ .u8 x):xs=ud0_ (strOf xs):=by
 unfold ud0_ strOf
 rw [List.map_map]
 conv=>lhs; rw [← List.map_id xs]
 refine List.map_congr_left fun x hx=>?_
 have h1:0≤x∧x≤255:=h x hx
 show x=((UInt8.ofNat x.toNat).toNat:Int)
 rw [UInt8.toNat_ofNat']
 omega
def ube_:FSpec:=⟨[.bld 5 true],[.val .str],ub0_,false⟩
theorem uby_:ugs_ Go.Proofs.Tryz.prog 193∧FunOK Go.Proofs.Tryz.prog 193 ube_:=by
 refine ⟨uvo_ Tryz.func193 (by kernel_rfl) (by kernel_rfl),fun w I v args bs hm hsh hnd r hr=>?_⟩
 cases hr
 obtain ⟨v1,rfl,b,cells,el,p,q,bs',e1,rfl,h1,hlay,h2,hp,h4,h5,h6⟩:=hsh
 obtain rfl:=List.singleton_inj.1 e1
 obtain rfl:=ubzy_ hlay
 obtain ⟨c0,c1⟩:=cell1 h1 h2
 have hnd':=List.nodup_cons.1 hnd
 have hcells:cells = #[p,q]:=by apply Array.ext'; exact h2
 subst hcells
 have empty:∀ (w':World) (e:Ending),(show List Int from v)=[]→e=.returned (.string ⟨#[]⟩)→Below w.heap.size w w'→∃ rv vs I' bs'',e=.returned rv∧vs.length=1∧retIs vs rv∧After (·∈b::bs') w I w' I' ∧
  ShL Tryz.prog w' I' [.val .str] (strOf v) (vs++[]) bs''∧bs''.Nodup∧(∀ k∈bs'',k∈b::bs'∨w.heap.size≤k)∧(false=true→w.drawn≤w'.drawn):=by
  intro w' e hv he hb
  refine ⟨_,[_],imNew I noX,[],he,rfl,rfl,(After.below hm hb ub1l_).mono (fun k hk=>by cases hk),?_,.nil,(fun k hk=>by cases hk),fun h=>by cases h⟩
  have:strOf v=[]:=by have hv:v=([]:List Int):=hv; rw [hv]; rfl
  rw [this]
  exact out1 (ubef_ (x:=[]) (by decide))
 rcases h6 with ⟨rfl,k1,k2⟩ | ⟨g,cap,gc,rfl,k2,k3,⟨fz,k4,k4'⟩,k5,k6,k7,k8⟩
 · exact (Any.Builder_String_nil Tryz.lays169 Tryz.Builder_Extra_169 w.heap.size b p w h1).mono fun e w' ⟨he,hb⟩=>empty w' e k1 he hb
 · obtain ⟨xs,hxs⟩:∃ xs:List Int,xs=v:=⟨v,rfl⟩
   subst hxs
   have k3:LenOK xs.length cap:=k3
   have k5:gc.size=cap:=by rw [k5]; exact Nat.mul_one _
   by_cases h0:xs=[]
   · subst h0
     by_cases hc:cap=0
     · subst hc
       exact (ub9d_ b g w gc fz c1 k4).mono fun e w' ⟨he,hb⟩=>empty w' e rfl he hb
     · exact (Any.Builder_String_room Tryz.lays169 Tryz.Builder_Extra_169 w.heap.size b g cap p w hc h1).mono fun e w' ⟨he,hb⟩=>empty w' e rfl he hb
   · have hrow:∀ (j:Nat) x,xs[j]? = some x→gc[j]? = some (.int .u8 x)∧und_ .u8 x:=by
      intro j x hx
      obtain ⟨e1,e2⟩:=k6 j x hx
      refine ⟨?_,e2⟩
      have e1:((gc.toList.drop (j*1)).take 1)=[.int .u8 x]:=e1
      have:=congrArg (fun l=>l[0]?) e1
      simpa using this
     have hk:∀ x∈xs,und_ .u8 x:=fun x hx=>let ⟨j,hj⟩:=List.getElem?_of_mem hx; (hrow j x hj).2
     have hb:xs=ud0_ (strOf xs):=ucb2_ hk
     have hl:(strOf xs).length=xs.length:=by simp [strOf]
     refine (ucev_ b g cap (strOf xs) w gc fz (by rw [hl]; exact c1) (fun e=>h0 (by rw [hb,e]; rfl)) k4 (by rw [hl]; exact k3.1) k5 (by rw [hl]; exact k3.2) (fun j x hj=>?_)).mono fun e w' ⟨he,hw⟩=>?_
     · have:xs[j]? = some (x.toNat:Int):=by rw [hb]; simp [ud0_,hj]
       exact (hrow j _ this).1
     · obtain ⟨o1,o2,o3⟩:=ub9e_ (w:=w.drew) (a:=⟨g,0,none⟩) (n:=(strOf xs).length)
       refine ⟨_,[_],I,[],he,rfl,rfl,After.only hm (b:=g) (by rw [k2]; simp) k7 k8 (fun k hk=>by rw [hw]; exact ub65_ hk) (by rw [hw]; exact ub36_) (by rw [hw]; exact o1) (by rw [hw]; exact o2) (by rw [hw]; exact o3),?_,.nil,(fun k hk=>by cases hk),fun h=>by cases h⟩
       exact out1 (ubef_ (by rw [hl]; exact k3.2))
end Go.Ev.Pv
namespace Go.Proofs
open Go.Shelf
def Tryz.sort252_ren:Go.Shelf.Ren:=⟨fun | 6=>252 | 15=>49 | 14=>298 | 28=>68 | 29=>69 | 20=>351 | 21=>352 | 22=>353 | 23=>354 | 24=>355 | 25=>356 | 26=>357 | 27=>358 | 46=>393 | 47=>96 | 48=>97 | 49=>394 | 50=>395 | 57=>411 | n=>n,fun | 22=>343 | 24=>408 | 25=>411 | 3=>3 | 39=>115 | 0=>0 | 53=>140 | 55=>142 | 4=>4 | 46=>133 | 45=>132 | 50=>137 | 5=>5 | 9=>9 | 66=>190 | 70=>194 | 76=>257 | 77=>258 | n=>n,fun | n=>n⟩
theorem Tryz.sort252:Go.Proofs.SlLaysF0.n6 Tryz.prog Tryz.sort252_ren:={
 mixed:=by kernel_rfl
 f6:=⟨Tryz.f252.name,by decide,Tryz.func252.trans (congrArg some (by kernel_rfl))⟩
 f14:=⟨Tryz.f298.name,by decide,Tryz.func298.trans (congrArg some (by kernel_rfl))⟩
 f15:=Tryz.func49.trans (congrArg some (by kernel_rfl))
 f20:=⟨Tryz.f351.name,by decide,Tryz.func351.trans (congrArg some (by kernel_rfl))⟩
 f21:=⟨Tryz.f352.name,by decide,Tryz.func352.trans (congrArg some (by kernel_rfl))⟩
 f22:=⟨Tryz.f353.name,by decide,Tryz.func353.trans (congrArg some (by kernel_rfl))⟩
 f23:=⟨Tryz.f354.name,by decide,Tryz.func354.trans (congrArg some (by kernel_rfl))⟩
 f24:=⟨Tryz.f355.name,by decide,Tryz.func355.trans (congrArg some (by kernel_rfl))⟩
 f25:=⟨Tryz.f356.name,by decide,Tryz.func356.trans (congrArg some (by kernel_rfl))⟩
 f26:=⟨Tryz.f357.name,by decide,Tryz.func357.trans (congrArg some (by kernel_rfl))⟩
 f27:=⟨Tryz.f358.name,by decide,Tryz.func358.trans (congrArg some (by kernel_rfl))⟩
 f28:=Tryz.func68.trans (congrArg some (by kernel_rfl))
 f29:=Tryz.func69.trans (congrArg some (by kernel_rfl))
 f46:=⟨Tryz.f393.name,by decide,Tryz.func393.trans (congrArg some (by kernel_rfl))⟩
 f47:=Tryz.func96.trans (congrArg some (by kernel_rfl))
 f48:=Tryz.func97.trans (congrArg some (by kernel_rfl))
 f49:=⟨Tryz.f394.name,by decide,Tryz.func394.trans (congrArg some (by kernel_rfl))⟩
 f50:=⟨Tryz.f395.name,by decide,Tryz.func395.trans (congrArg some (by kernel_rfl))⟩
 f57:=⟨Tryz.f411.name,by decide,Tryz.func411.trans (congrArg some (by kernel_rfl))⟩
 t0:=Tryz.underlying0
 a0:=Tryz.isAgg0
 z0:=Tryz.sizeOf0
 v0:=Tryz.zeroValue0
 t3:=Tryz.underlying3
 a3:=Tryz.isAgg3
 z3:=Tryz.sizeOf3
 v3:=Tryz.zeroValue3
 t4:=Tryz.underlying4
 a4:=Tryz.isAgg4
 z4:=Tryz.sizeOf4
 v4:=Tryz.zeroValue4
 t5:=Tryz.underlying5
 a5:=Tryz.isAgg5
 z5:=Tryz.sizeOf5
 v5:=Tryz.zeroValue5
 t9:=Tryz.underlying9
 a9:=Tryz.isAgg9
 z9:=Tryz.sizeOf9
 v9:=Tryz.zeroValue9
 t22:=Tryz.underlying343
 a22:=Tryz.isAgg343
 z22:=Tryz.sizeOf343
 v22:=Tryz.zeroValue343
 t25:=Tryz.underlying411
 a25:=Tryz.isAgg411
 z25:=Tryz.sizeOf411
 v25:=Tryz.zeroValue411
 t39:=Tryz.underlying115
 a39:=Tryz.isAgg115
 z39:=Tryz.sizeOf115
 v39:=Tryz.zeroValue115
 t45:=Tryz.underlying132
 a45:=Tryz.isAgg132
 z45:=Tryz.sizeOf132
 v45:=Tryz.zeroValue132
 t46:=Tryz.underlying133
 a46:=Tryz.isAgg133
 z46:=Tryz.sizeOf133
 v46:=Tryz.zeroValue133
 t50:=Tryz.underlying137
 a50:=Tryz.isAgg137
 z50:=Tryz.sizeOf137
 v50:=Tryz.zeroValue137
 t53:=Tryz.underlying140
 a53:=Tryz.isAgg140
 z53:=Tryz.sizeOf140
 v53:=Tryz.zeroValue140
 t55:=Tryz.underlying142
 a55:=Tryz.isAgg142
 z55:=Tryz.sizeOf142
 v55:=Tryz.zeroValue142
 t66:=Tryz.underlying190
 a66:=Tryz.isAgg190
 z66:=Tryz.sizeOf190
 v66:=Tryz.zeroValue190
 t70:=Tryz.underlying194
 a70:=Tryz.isAgg194
 z70:=Tryz.sizeOf194
 v70:=Tryz.zeroValue194
 t76:=Tryz.underlying257
 a76:=Tryz.isAgg257
 z76:=Tryz.sizeOf257
 v76:=Tryz.zeroValue257
 t77:=Tryz.underlying258
 a77:=Tryz.isAgg258
 z77:=Tryz.sizeOf258
 v77:=Tryz.zeroValue258 }
def Tryz.sort114_ren:Go.Shelf.Ren:=⟨fun | 6=>114 | 15=>49 | 14=>154 | 28=>68 | 29=>69 | 20=>201 | 21=>202 | 22=>203 | 23=>204 | 24=>205 | 25=>206 | 26=>207 | 27=>208 | 46=>265 | 47=>96 | 48=>97 | 49=>266 | 50=>267 | 57=>323 | n=>n,fun | 22=>157 | 24=>160 | 25=>213 | 3=>3 | 39=>115 | 0=>0 | 53=>140 | 55=>142 | 4=>4 | 46=>133 | 45=>132 | 50=>137 | 5=>5 | 9=>9 | 66=>190 | 70=>194 | 76=>257 | 77=>258 | n=>n,fun | n=>n⟩
theorem Tryz.sort114:Go.Proofs.SlLaysF0.n6 Tryz.prog Tryz.sort114_ren:={
 mixed:=by kernel_rfl
 f6:=⟨Tryz.f114.name,by decide,Tryz.func114.trans (congrArg some (by kernel_rfl))⟩
 f14:=⟨Tryz.f154.name,by decide,Tryz.func154.trans (congrArg some (by kernel_rfl))⟩
 f15:=Tryz.func49.trans (congrArg some (by kernel_rfl))
 f20:=⟨Tryz.f201.name,by decide,Tryz.func201.trans (congrArg some (by kernel_rfl))⟩
 f21:=⟨Tryz.f202.name,by decide,Tryz.func202.trans (congrArg some (by kernel_rfl))⟩
 f22:=⟨Tryz.f203.name,by decide,Tryz.func203.trans (congrArg some (by kernel_rfl))⟩
 f23:=⟨Tryz.f204.name,by decide,Tryz.func204.trans (congrArg some (by kernel_rfl))⟩
 f24:=⟨Tryz.f205.name,by decide,Tryz.func205.trans (congrArg some (by kernel_rfl))⟩
 f25:=⟨Tryz.f206.name,by decide,Tryz.func206.trans (congrArg some (by kernel_rfl))⟩
 f26:=⟨Tryz.f207.name,by decide,Tryz.func207.trans (congrArg some (by kernel_rfl))⟩
 f27:=⟨Tryz.f208.name,by decide,Tryz.func208.trans (congrArg some (by kernel_rfl))⟩
 f28:=Tryz.func68.trans (congrArg some (by kernel_rfl))
 f29:=Tryz.func69.trans (congrArg some (by kernel_rfl))
 f46:=⟨Tryz.f265.name,by decide,Tryz.func265.trans (congrArg some (by kernel_rfl))⟩
 f47:=Tryz.func96.trans (congrArg some (by kernel_rfl))
 f48:=Tryz.func97.trans (congrArg some (by kernel_rfl))
 f49:=⟨Tryz.f266.name,by decide,Tryz.func266.trans (congrArg some (by kernel_rfl))⟩
 f50:=⟨Tryz.f267.name,by decide,Tryz.func267.trans (congrArg some (by kernel_rfl))⟩
 f57:=⟨Tryz.f323.name,by decide,Tryz.func323.trans (congrArg some (by kernel_rfl))⟩
 t0:=Tryz.underlying0
 a0:=Tryz.isAgg0
 z0:=Tryz.sizeOf0
 v0:=Tryz.zeroValue0
 t3:=Tryz.underlying3
 a3:=Tryz.isAgg3
 z3:=Tryz.sizeOf3
 v3:=Tryz.zeroValue3
 t4:=Tryz.underlying4
 a4:=Tryz.isAgg4
 z4:=Tryz.sizeOf4
 v4:=Tryz.zeroValue4
 t5:=Tryz.underlying5
 a5:=Tryz.isAgg5
 z5:=Tryz.sizeOf5
 v5:=Tryz.zeroValue5
 t9:=Tryz.underlying9
 a9:=Tryz.isAgg9
 z9:=Tryz.sizeOf9
 v9:=Tryz.zeroValue9
 t22:=Tryz.underlying157
 a22:=Tryz.isAgg157
 z22:=Tryz.sizeOf157
 v22:=Tryz.zeroValue157
 t25:=Tryz.underlying213
 a25:=Tryz.isAgg213
 z25:=Tryz.sizeOf213
 v25:=Tryz.zeroValue213
 t39:=Tryz.underlying115
 a39:=Tryz.isAgg115
 z39:=Tryz.sizeOf115
 v39:=Tryz.zeroValue115
 t45:=Tryz.underlying132
 a45:=Tryz.isAgg132
 z45:=Tryz.sizeOf132
 v45:=Tryz.zeroValue132
 t46:=Tryz.underlying133
 a46:=Tryz.isAgg133
 z46:=Tryz.sizeOf133
 v46:=Tryz.zeroValue133
 t50:=Tryz.underlying137
 a50:=Tryz.isAgg137
 z50:=Tryz.sizeOf137
 v50:=Tryz.zeroValue137
 t53:=Tryz.underlying140
 a53:=Tryz.isAgg140
 z53:=Tryz.sizeOf140
 v53:=Tryz.zeroValue140
 t55:=Tryz.underlying142
 a55:=Tryz.isAgg142
 z55:=Tryz.sizeOf142
 v55:=Tryz.zeroValue142
 t66:=Tryz.underlying190
 a66:=Tryz.isAgg190
 z66:=Tryz.sizeOf190
 v66:=Tryz.zeroValue190
 t70:=Tryz.underlying194
 a70:=Tryz.isAgg194
 z70:=Tryz.sizeOf194
 v70:=Tryz.zeroValue194
 t76:=Tryz.underlying257
 a76:=Tryz.isAgg257
 z76:=Tryz.sizeOf257
 v76:=Tryz.zeroValue257
 t77:=Tryz.underlying258
 a77:=Tryz.isAgg258
 z77:=Tryz.sizeOf258
 v77:=Tryz.zeroValue258 }
end Go.Proofs
namespace Go.Ev.Pv
open Go.Proofs Go.Shelf
def uij_:FSpec:=⟨[.io 408 (.agg (.prod (.agg (.prod (.int .i64) (.prod .str (.prod .bool .str)))) (.agg (.prod (.int .i64) (.prod .str (.prod .bool .str)))))),.hof true (.prod (.agg (.prod (.agg (.prod (.int .i64) (.prod .str (.prod .bool .str)))) (.agg (.prod (.int .i64) (.prod .str (.prod .bool .str)))))) (.agg (.prod (.agg (.prod (.int .i64) (.prod .str (.prod .bool .str)))) (.agg (.prod (.int .i64) (.prod .str (.prod .bool .str))))))) (.int .i64)],[],uku_,true⟩
theorem uth_:ugs_ Go.Proofs.Tryz.prog 252∧FunOK Go.Proofs.Tryz.prog 252 uij_ :=
 ⟨uvo_ Tryz.func252 (by kernel_rfl) (by kernel_rfl),ub6v_ Tryz.sort252 rfl Tryz.isAgg408 Tryz.sizeOf408 (by decide)⟩
def ujx_:FSpec:=⟨[.io 160 (.agg (.prod (.int .i64) (.int .i64))),.hof true (.prod (.agg (.prod (.int .i64) (.int .i64))) (.agg (.prod (.int .i64) (.int .i64)))) (.int .i64)],[],ums_,true⟩
theorem uwl_:ugs_ Go.Proofs.Tryz.prog 114∧FunOK Go.Proofs.Tryz.prog 114 ujx_ :=
 ⟨uvo_ Tryz.func114 (by kernel_rfl) (by kernel_rfl),ub6v_ Tryz.sort114 rfl Tryz.isAgg160 Tryz.sizeOf160 (by decide)⟩
end Go.Ev.Pv
namespace Go.Proofs
open Go.Shelf
def Tryz.sort38_ren:Go.Shelf.Ren:=⟨fun | 6=>38 | 15=>49 | 14=>48 | 28=>68 | 29=>69 | 20=>60 | 21=>61 | 22=>62 | 23=>63 | 24=>64 | 25=>65 | 26=>66 | 27=>67 | 46=>95 | 47=>96 | 48=>97 | 49=>98 | 50=>99 | 57=>132 | n=>n,fun | 22=>82 | 24=>61 | 25=>59 | 3=>3 | 39=>115 | 0=>0 | 53=>140 | 55=>142 | 4=>4 | 46=>133 | 45=>132 | 50=>137 | 5=>5 | 9=>9 | 66=>190 | 70=>194 | 76=>257 | 77=>258 | n=>n,fun | n=>n⟩
theorem Tryz.sort38:Go.Proofs.SlLaysF0.n6 Tryz.prog Tryz.sort38_ren:={
 mixed:=by kernel_rfl
 f6:=⟨Tryz.f38.name,by decide,Tryz.func38.trans (congrArg some (by kernel_rfl))⟩
 f14:=⟨Tryz.f48.name,by decide,Tryz.func48.trans (congrArg some (by kernel_rfl))⟩
 f15:=Tryz.func49.trans (congrArg some (by kernel_rfl))
 f20:=⟨Tryz.f60.name,by decide,Tryz.func60.trans (congrArg some (by kernel_rfl))⟩
 f21:=⟨Tryz.f61.name,by decide,Tryz.func61.trans (congrArg some (by kernel_rfl))⟩
 f22:=⟨Tryz.f62.name,by decide,Tryz.func62.trans (congrArg some (by kernel_rfl))⟩
 f23:=⟨Tryz.f63.name,by decide,Tryz.func63.trans (congrArg some (by kernel_rfl))⟩
 f24:=⟨Tryz.f64.name,by decide,Tryz.func64.trans (congrArg some (by kernel_rfl))⟩
 f25:=⟨Tryz.f65.name,by decide,Tryz.func65.trans (congrArg some (by kernel_rfl))⟩
 f26:=⟨Tryz.f66.name,by decide,Tryz.func66.trans (congrArg some (by kernel_rfl))⟩
 f27:=⟨Tryz.f67.name,by decide,Tryz.func67.trans (congrArg some (by kernel_rfl))⟩
 f28:=Tryz.func68.trans (congrArg some (by kernel_rfl))
 f29:=Tryz.func69.trans (congrArg some (by kernel_rfl))
 f46:=⟨Tryz.f95.name,by decide,Tryz.func95.trans (congrArg some (by kernel_rfl))⟩
 f47:=Tryz.func96.trans (congrArg some (by kernel_rfl))
 f48:=Tryz.func97.trans (congrArg some (by kernel_rfl))
 f49:=⟨Tryz.f98.name,by decide,Tryz.func98.trans (congrArg some (by kernel_rfl))⟩
 f50:=⟨Tryz.f99.name,by decide,Tryz.func99.trans (congrArg some (by kernel_rfl))⟩
 f57:=⟨Tryz.f132.name,by decide,Tryz.func132.trans (congrArg some (by kernel_rfl))⟩
 t0:=Tryz.underlying0
 a0:=Tryz.isAgg0
 z0:=Tryz.sizeOf0
 v0:=Tryz.zeroValue0
 t3:=Tryz.underlying3
 a3:=Tryz.isAgg3
 z3:=Tryz.sizeOf3
 v3:=Tryz.zeroValue3
 t4:=Tryz.underlying4
 a4:=Tryz.isAgg4
 z4:=Tryz.sizeOf4
 v4:=Tryz.zeroValue4
 t5:=Tryz.underlying5
 a5:=Tryz.isAgg5
 z5:=Tryz.sizeOf5
 v5:=Tryz.zeroValue5
 t9:=Tryz.underlying9
 a9:=Tryz.isAgg9
 z9:=Tryz.sizeOf9
 v9:=Tryz.zeroValue9
 t22:=Tryz.underlying82
 a22:=Tryz.isAgg82
 z22:=Tryz.sizeOf82
 v22:=Tryz.zeroValue82
 t25:=Tryz.underlying59
 a25:=Tryz.isAgg59
 z25:=Tryz.sizeOf59
 v25:=Tryz.zeroValue59
 t39:=Tryz.underlying115
 a39:=Tryz.isAgg115
 z39:=Tryz.sizeOf115
 v39:=Tryz.zeroValue115
 t45:=Tryz.underlying132
 a45:=Tryz.isAgg132
 z45:=Tryz.sizeOf132
 v45:=Tryz.zeroValue132
 t46:=Tryz.underlying133
 a46:=Tryz.isAgg133
 z46:=Tryz.sizeOf133
 v46:=Tryz.zeroValue133
 t50:=Tryz.underlying137
 a50:=Tryz.isAgg137
 z50:=Tryz.sizeOf137
 v50:=Tryz.zeroValue137
 t53:=Tryz.underlying140
 a53:=Tryz.isAgg140
 z53:=Tryz.sizeOf140
 v53:=Tryz.zeroValue140
 t55:=Tryz.underlying142
 a55:=Tryz.isAgg142
 z55:=Tryz.sizeOf142
 v55:=Tryz.zeroValue142
 t66:=Tryz.underlying190
 a66:=Tryz.isAgg190
 z66:=Tryz.sizeOf190
 v66:=Tryz.zeroValue190
 t70:=Tryz.underlying194
 a70:=Tryz.isAgg194
 z70:=Tryz.sizeOf194
 v70:=Tryz.zeroValue194
 t76:=Tryz.underlying257
 a76:=Tryz.isAgg257
 z76:=Tryz.sizeOf257
 v76:=Tryz.zeroValue257
 t77:=Tryz.underlying258
 a77:=Tryz.isAgg258
 z77:=Tryz.sizeOf258
 v77:=Tryz.zeroValue258 }
end Go.Proofs
namespace Go.Ev.Pv
open Go.Proofs
def ulu_:FSpec:=⟨[.io 61 (.agg (.prod .str (.prod .str (.int .i64)))),.hof true (.prod (.agg (.prod .str (.prod .str (.int .i64)))) (.agg (.prod .str (.prod .str (.int .i64))))) (.int .i64)],[],uda_,true⟩
theorem uyw_:ugs_ Go.Proofs.Tryz.prog 38∧FunOK Go.Proofs.Tryz.prog 38 ulu_ :=
 ⟨uvo_ Tryz.func38 (by kernel_rfl) (by kernel_rfl),ub6v_ Tryz.sort38 rfl Tryz.isAgg61 Tryz.sizeOf61 (by decide)⟩
end Go.Ev.Pv
