/-
  The contracts of Go's library that the law reaches, in the evaluator's terms.
-/
import Derived.Test.YtlljgbmoloklgaaGreatDoorBE4
import Derived.Below
import Derived.Test.YtlljgbmoloklgaaGreatDoorBD
import Derived.Shelf.SlSortCmp.WholeK
import Derived.Shelf.SlSortCmp.NoneTotal
import Derived.Lib.QuietBelow
import Derived.Shelf.Strings.Builder1
import Derived.Shelf.Strings.Builder2
import Derived.Shelf.Strings.OnBuilder
import Derived.Shelf.Small.Utf8
import Derived.Shelf.Small.Bits
import Derived.Shelf.Small.Strs
import Derived.Shelf.Small.Wraps
import Derived.Shelf.Strings.BuilderF
import Derived.Shelf.Strings.BuilderK
import Derived.Shelf.Strings.BuilderRune
import Derived.Shelf.Utf8.RuneCount
import Derived.Shelf.Strings.Builder2Cap
import Derived.Shelf.Strconv.Atoi
import Derived.Shelf.Strconv.Itoa0
import Derived.Shelf.Strconv.Itoa1
import Derived.Shelf.LaysM
import Derived.Shelf.Strconv.Itoa2
import Derived.Shelf.Strconv.Itoa3
import Derived.Shelf.Strconv.AtoiErrFast
import Derived.Shelf.Strconv.ParseIntEmpty
import Derived.Shelf.Strconv.AtoiFail
import Derived.Shelf.Strconv.Clone
import Derived.Shelf.Strconv.SyntaxError
import Derived.Shelf.LaysC
import Derived.Shelf.Strconv.ToError
import Derived.Shelf.Strconv.Lower
import Derived.Shelf.Strconv.ParseUint10
import Derived.Shelf.Strconv.ParseUint10Empty
import Derived.Shelf.Strconv.ParseUint10Any
import Derived.Shelf.Strconv.ParseInt10
import Derived.Shelf.Strconv.AtoiLong
import Derived.Shelf.Strconv.AtoiInnerAll
import Derived.Shelf.Strconv.RangeError
import Derived.Shelf.Strconv.ToErrorRange
import Derived.Shelf.Strconv.AtoiAll
import Derived.Shelf.Strconv.ParseUintEmpty
import Derived.Shelf.Strconv.ParseUint10b64
import Derived.Shelf.Strconv.ParseUint10b32
import Derived.Shelf.Strconv.ParseUint10b16
import Derived.Shelf.Strconv.ParseUint10b8
import Derived.Shelf.Strings.Search1
import Derived.Shelf.Strings.Search2
import Derived.Shelf.Strings.Search3
import Derived.Shelf.Strings.Cut
import Derived.Shelf.Strings.Count
import Derived.Shelf.Strings.Shaped
import Derived.Shelf.Sort.Plain
import Derived.Shelf.Strings.LastIndex
import Derived.Shelf.Strings.Prefix
import Derived.Shelf.Strings.Split
import Derived.Shelf.Strings.SplitShaped
import Derived.Shelf.Unicode.Latin
import Derived.Shelf.Unicode.Decode
import Derived.Shelf.Strings.RuneCount
import Derived.Shelf.Strings.Explode
import Derived.Shelf.Bits.Mul64
import Derived.Shelf.Strings.Repeat
import Derived.Shelf.Unicode.DecodeSlow
import Derived.Shelf.Unicode.DecodeAny
import Derived.Shelf.Strings.FieldsFuncAny
import Derived.Shelf.Unicode.CaseLookup
import Derived.Shelf.Unicode.CaseConvert
import Derived.Shelf.Unicode.CaseTo
import Derived.Shelf.Unicode.CaseLaid
import Derived.Shelf.Strings.MapAny
import Derived.Shelf.Strings.CaseAny
import Derived.Shelf.Strings.FieldsFuncGrows
import Derived.Shelf.Slices.Turned
import Derived.Ground.Names2Prog
import Derived.Shelf.Slices.ReverseS
import Derived.Shelf.Slices.Clone
import Derived.Shelf.Slices.CompactS
import Derived.Shelf.Slices.SearchI
import Derived.Shelf.Slices.Cells
import Derived.Shelf.Slices.In.SortNone
import Derived.Ground.SlgnProg
import Derived.Shelf.SlicesE.Reverse
import Derived.Shelf.SlicesE.Clone
import Derived.Test.YtlljgbmoloklgaaGreatDoorProg
import Derived.Lib.AppendIntMem
import Derived.Shelf.SlGeneric
import Derived.Shelf.SlLaysF0
import Derived.Ground.SlsfProg
set_option linter.unusedVariables false
set_option linter.unusedSimpArgs false
set_option linter.unusedSectionVars false
set_option maxRecDepth 100000
namespace Go.Ev
variable [Pins]
open Go.RowKit
def SM(I:Im)(X:Nat->Nat->Prop):Im:=⟨fun b o=>I.cell b o\/X b o,I.obj⟩
theorem After.below{w w':World}{I:Im}(hm:HU w I)(hb:Below w.heap.size w w'){X:Nat->Nat->Prop}(hx:∀b o,X b o->w.heap.size<=b/\b<w'.heap.size):
 After (·∈([]:List Nat)) w I w' (SM I X):=by
 have he:Ext w I w' (SM I X):=⟨fun b o h=>⟨.inl h,by simp only[World.cell?,hb.block b (hm.1 b o h)]⟩,fun b h=>⟨h,hb.block b (hm.2.1 b h)⟩⟩
 exact ⟨he,fun b hlt _=>hb.block b hlt,hb.size,fun b o h=>h.imp id fun h=>.inl (hx b o h).1,fun b h=>.inl h,
  fun b o h=>h.elim (fun h=>BK (hm.1 b o h) hb.size) fun h=>(hx b o h).2,fun b h=>BK (hm.2.1 b h) hb.size,hb.os,hb.tape,hb.output,hm.2.2.ext he⟩
theorem FunOK.given{P:Program}{f:Nat}{sp:FSpec}(h:∀(w:World) (I:Im) (v:TupR sp.ps) (args:List Value) (bs:List Nat),HU w I->ShL P w I sp.ps v args bs->∀r,sp.F v=some r->bs=[]/\
 Calls P f args.toArray w fun e w'=>∃rv vs X,e=.returned rv/\vs.length=sp.rs.length/\JP vs rv/\Below w.heap.size w w'/\(sp.dr=true->w.drawn<=w'.drawn)/\(∀b o,X b o->w.heap.size<=b/\b<w'.heap.size)/\
  ShL P w' (SM I X) (sp.rs++sp.ps.filter F3) r (vs++GC sp.ps args) []):FunOK P f sp:=by
 intro w I v args bs hm hsh hnd r hr;obtain⟨rfl,hc⟩:=h w I v args bs hm hsh r hr;refine hc.mono fun e w' ⟨rv,vs,X,h1,h2,h3,h4,h7,h5,h6⟩=>?_;exact⟨rv,vs,SM I X,[],h1,h2,h3,After.below hm h4 h5,h6,.nil,(fun b hb=>by cases hb),h7⟩
def OE:Nat->Nat->Prop:=fun _ _=>False
theorem PR{w w':World}:∀b o,OE b o->w.heap.size<=b/\b<w'.heap.size:=fun _ _ h=>h.elim
section
variable{P:Program}{w:World}{I:Im}
theorem J1{x:E1}{v:Value}(h:VRel w I .str x v):v=.string ⟨x.toArray⟩/\x.length<=281474976710656:=by
 obtain⟨c,h1,h2,h3⟩:=h;have h1:c=[v]:=h1;rw[h1]at h2;cases h2;exact⟨rfl,h3⟩
theorem eT{k:IntKind}{n:Int}{v:Value}(h:VRel w I (.int k) n v):v=.int k n/\GI k n:=by
 obtain⟨c,h1,h2,h3⟩:=h;have h1:c=[v]:=h1;rw[h1]at h2;cases h2;exact⟨rfl,h3⟩
theorem ABi{b:Bool}{v:Value}(h:VRel w I .bool b v):v=.bool b:=by
 obtain⟨c,h1,h2⟩:=h;have h1:c=[v]:=h1;have h2:c=[.bool b]:=h2;rw[h1]at h2;cases h2;rfl
theorem M2{x:E1}(h:x.length<=281474976710656):VRel w I .str x (.string ⟨x.toArray⟩):=⟨_,rfl,rfl,h⟩
theorem eU{k:IntKind}{n:Int}(h:GI k n):VRel w I (.int k) n (.int k n):=⟨_,rfl,rfl,h⟩
theorem rX{b:Bool}:VRel w I .bool b (.bool b):=⟨_,rfl,rfl⟩
theorem rY{a:Ty}{x:a.T}{args:List Value}{bs:List Nat}(h:ShL P w I [.val a] x args bs):bs=[]/\∃v,args=[v]/\VRel w I a x v:=by
 obtain⟨v,rfl,h1,rfl⟩:=h;exact⟨rfl,v,rfl,h1⟩
theorem NJ{a b:Ty}{x:a.T×b.T}{args:List Value}{bs:List Nat}(h:ShL P w I [.val a,.val b] x args bs):bs=[]/\∃v u,args=[v,u]/\VRel w I a x.1 v/\VRel w I b x.2 u:=by
 obtain⟨v,vs,b1,b2,rfl,rfl,⟨h1,rfl⟩,u,rfl,h2,rfl⟩:=h;exact⟨rfl,v,u,rfl,h1,h2⟩
theorem KO{a:Ty}{x:a.T}{v:Value}(h:VRel w I a x v):ShL P w I [.val a] x [v] []:=⟨v,rfl,h,rfl⟩
theorem ABj{a b:Ty}{x:a.T×b.T}{v u:Value}(h:VRel w I a x.1 v)(k:VRel w I b x.2 u):ShL P w I [.val a,.val b] x [v,u] []:=
 ⟨v,[u],[],[],rfl,rfl,⟨h,rfl⟩,u,rfl,k,rfl⟩
theorem ABk{a b c:Ty}{x:a.T×b.T×c.T}{v u t:Value}(h:VRel w I a x.1 v)(k:VRel w I b x.2.1 u)(m:VRel w I c x.2.2 t):ShL P w I [.val a,.val b,.val c] x [v,u,t] []:=
 ⟨v,[u,t],[],[],rfl,rfl,⟨h,rfl⟩,u,[t],[],[],rfl,rfl,⟨k,rfl⟩,t,rfl,m,rfl⟩
end
theorem FunOK.flat1{P:Program}{f:Nat}{sp:FSpec}{t:Ty}(hrs:sp.rs=[.val t])(hps:sp.ps.filter F3=[])(hbv:∀args,GC sp.ps args=[])
 (h:∀ (w:World) (I:Im) (v:TupR sp.ps) (args:List Value) (bs:List Nat),HU w I->ShL P w I sp.ps v args bs->∀ r,sp.F v=some r->bs=[] /\
  ∃rv,(∀w' I',ShL P w' I' (sp.rs++sp.ps.filter F3) r [rv] [])/\Calls P f args.toArray w fun e w'=>e=.returned rv/\Below w.heap.size w w'/\(sp.dr=true->w.drawn<=w'.drawn)):FunOK P f sp:=by
 refine FunOK.given fun w I v args bs hm hsh r hr=>?_;obtain⟨h1,rv,h2,h3⟩:=h w I v args bs hm hsh r hr;refine⟨h1,h3.mono fun e w' ⟨he,hb,hd⟩=>⟨rv,[rv],OE,he,by rw[hrs];rfl,rfl,hb,hd,PR,?_⟩⟩;rw[hbv];exact h2 w' _
end Go.Ev
namespace Go.Ev.Pv
variable [Pins]
open Go.Proofs Go.RowKit Go.Sort Go.Shelf
theorem ABl{P:Program}{g:Nat}(h:FF P g):∀args w,(callFunc g args).run P w=.ok (.enter g args) w:=by
 obtain⟨fn,c,h1,h2,h3⟩:=h;intro args w;have h2':fn.name≠"runtime.NumGoroutine" :=by simpa using h2
 simp[callFunc,h1,h2',h3]
theorem ABm{α:Type} [Inhabited α](enc:α->Value)(w:World)(blk off:Nat)(d:Array α)(k:Nat)(h:k≠blk):(putRow enc w blk off d).heap[k]?=w.heap[k]?:=by
 simp only[putRow,mapBlock,Array.getElem?_modify];rw[if_neg (fun e=>h e.symm)]
theorem ABn{α:Type} [Inhabited α](enc:α->Value)(w:World)(blk off:Nat)(d:Array α){cs:Array Value}{el:TypeId}{fz:Nat×Nat}(h:w.heap[blk]?=some (.cells cs el fz)):
 (putRow enc w blk off d).heap[blk]?=some (.cells (putCells enc off d cs) el fz):=by
 simp only[putRow,mapBlock,Array.getElem?_modify,h];simp[onCells]
theorem A1R(w:World)(os:Array Go.Obj)(k:Nat)(h:k<w.heap.size):(grow w os).heap[k]?=w.heap[k]?:=by
 simp only[grow];rw[Array.getElem?_append_left h]
section
variable{P:Program}{w:World}{I:Im}
theorem A1S{α:Type} [Inhabited α]{enc:α->List Value}{k b:Nat}{n:Nat}{D:Array α}{os:Array Go.Obj}{cs:Array Value}{el:TypeId}{fz:Nat×Nat}(hb:w.heap[b]?=some (.cells cs el fz)):
 (sortWorldK enc k w b 0 n D os).heap[b]?=some (.cells (putCells id 0 (flatK enc k D) cs) el fz)/\(∀j,j≠b->j<w.heap.size->(sortWorldK enc k w b 0 n D os).heap[j]?=w.heap[j]?)/\
 w.heap.size<=(sortWorldK enc k w b 0 n D os).heap.size/\(sortWorldK enc k w b 0 n D os).drawn=w.drawn+n:=by
 have hlt:b<w.heap.size:=(BV.1 hb).1;unfold sortWorldK putRowK;refine⟨?_,fun j hj hjl=>?_,?_,rfl⟩
 ·rw[A1R _ _ _ (by simpa using hlt)];exact ABn id _ b 0 _ hb
 ·rw[A1R _ _ _ (by simpa using hjl)];exact ABm id _ b 0 _ j hj
 ·simp
theorem A1T{α:Type} [Inhabited α]{enc:α->List Value}{k b:Nat}{n:Nat}{D:Array α}{os:Array Go.Obj}{cs:Array Value}{el:TypeId}{fz:Nat×Nat}(hb:w.heap[b]?=some (.cells cs el fz))
 (hm:HU w I)(hI:∀o,¬I.cell b o)(hO:¬I.obj b):Ext w I (sortWorldK enc k w b 0 n D os) I/\HU (sortWorldK enc k w b 0 n D os) I:=by
 obtain⟨h1,h2,h3,h4⟩:=A1S (enc:=enc) (k:=k) (n:=n) (D:=D) (os:=os) hb;have hx:Ext w I (sortWorldK enc k w b 0 n D os) I:=⟨fun j o h=>⟨h,by simp only[World.cell?,h2 j (fun e=>hI o (e▸h)) (hm.1 j o h)]⟩,fun j h=>⟨h,h2 j (fun e=>hO (e▸h)) (hm.2.1 j h)⟩⟩;exact⟨hx,fun j o h=>BK (hm.1 j o h) h3,fun j h=>BK (hm.2.1 j h) h3,hm.2.2.ext hx⟩
theorem ABo{ρ:Ren}{f el:Nat}{p:Ty}(L:SlLaysF0.n6 P ρ)(hf:ρ.f 6=f)(aE:∀w,(isAgg (ρ.t 24)).run P w=.ok true w)(zE:∀w,(Go.sizeOf (ρ.t 24)).run P w=.ok p.sz w)(hp:0<p.sz):
 FunOK P f ⟨[.io el (.agg p),.hof true (.prod (.agg p) (.agg p)) (.int .i64)],[],fun v=>P5 v.1 v.2,true⟩:=by
 subst hf;intro w I v args bs hm hsh hnd r hr;obtain⟨v1,vs,b1,b2,rfl,rfl,h1,v2,rfl,rfl,g,lb,hv2,hent,hof⟩:=hsh;obtain rfl:=A8.1 hv2;obtain⟨xs,F⟩:List p.T×(p.T×p.T->Option Int):=v;have hr:P5 xs F=some r:=hr
 have none_:∀(a:Option Addr) (cap:Nat),v1=.slice a 0 cap->xs=[]->
  Calls P (ρ.f 6) #[v1,.func (.func g) #[] lb] w fun e w'=>∃rv vs I' bs',e=.returned rv/\vs.length=0/\JP vs rv/\After (·∈b1++[]) w I w' I'/\
   ShL P w' I' [.io el (.agg p)] r (vs++[v1]) bs'/\bs'.Nodup/\(∀b∈bs',b∈b1++[]\/w.heap.size<=b)/\(true=true->w.drawn<=w'.drawn):=by
  intro a cap hv hxs;subst hxs
  have hr:r=([]:List p.T):=by
   have:P5 ([]:List p.T) F=some []:=rfl;rw[this]at hr;cases hr;rfl
  subst hv;refine(AnyF.slices_SortFunc_none L a cap _ w).mono fun e w' ⟨he,hw⟩=>?_;subst hw;rw[BZ]at hnd ⊢;refine⟨_,[],I,b1,he,rfl,rfl,After.refl hm,⟨_,rfl,?_⟩,hnd,fun b hb=>.inl hb,fun _=>AM _⟩;rw[hr];exact h1
 rcases h1 with⟨e1,e2,rfl⟩|⟨b,cap,cells,e1,rfl,hl,⟨fz,hb,hfz⟩,hcs,hrow,hI,_,hO⟩
 ·exact none_ none 0 (A8.1 e1) e2
 ·have e1:v1=.slice (some ⟨b,0,none⟩) xs.length cap:=A8.1 e1;by_cases h0:0<xs.length
  ·subst e1;unfold P5 at hr;rw[dif_pos h0]at hr;obtain⟨⟨hs1,hs2,hs3,hs4⟩,hr⟩:=MH hr;have hr:(JR xs F h0).toList.map xs.get=r:=A4 hr
   letI:Inhabited (Fin xs.length):=⟨⟨0,h0⟩⟩
   let k:=p.sz
   have hcs:cells.size=cap*k:=hcs;have hcap:xs.length<=cap:=hl.1
   have hmul:∀i,i<xs.length->i*k+k<=cells.size:=by
    intro i hi;have:(i+1)*k<=cap*k:=B2 k (by omega);rw[hcs];rw[CT]at this;omega
   let enc:Fin xs.length->List Value:=fun i=>(cells.toList.drop (i.val*k)).take k
   have hrel:∀i:Fin xs.length,Rel w I (.agg p) (xs.get i) (enc i):=fun i=>hrow i.val (xs.get i) (A1 i.isLt)
   have hk:∀x,(enc x).length=k:=by
    intro x;have:=hmul x.val x.isLt;simp only[enc,B4,CF,BY];omega
   have hone:∀x,∀v∈enc x,v.oneCell'=true:=fun x=>(hrel x).oneCell
   have hget:∀(i:Fin xs.length) (c:Nat),c<k->(enc i)[c]! =cells[i.val*k+c]!:=by
    intro i c hc;have h2:=hmul i.val i.isLt;have hlt:i.val*k+c<cells.size:=by omega
    rw[getElem!_pos (enc i) c (by rw[hk];exact hc),getElem!_pos cells _ hlt];simp[enc]
   have hO':SWO (ltOf (N8 xs F)):=⟨fun x=>hs2 x,fun x y z=>hs3 x y z,fun x y z=>hs4 x y z⟩
   have hcmp:CmpLays P g lb enc k (N8 xs F) b 0 xs.length w:=by
    intro m os dk _ x y;obtain⟨hx,hm'⟩:=A1T (enc:=enc) (k:=k) (n:=m) (D:=dk) (os:=os) hb hm (hI rfl) hO;obtain⟨c,hc⟩:=Option.isSome_iff_exists.1 (hs1 x y)
    have:=hof _ I hx hm' (xs.get x,xs.get y) [.agg (enc x).toArray,.agg (enc y).toArray]
     ⟨_,_,rfl,⟨enc x,rfl,(hrel x).ext hx⟩,_,rfl,enc y,rfl,(hrel y).ext hx⟩ c hc
    refine this.mono fun e w'' ⟨rv,I'',q1,q2,⟨c',q3,q4,_⟩,q5⟩=>?_;have q3:c'=[rv]:=q3;rw[q3]at q4;have q4:rv=.int .i64 c:=A8.1 q4;refine⟨?_,?_⟩
    ·rw[q1,q4];unfold N8;rw[hc];rfl
    ·obtain⟨⟨d,os'⟩,hw⟩:=regrown_of_below (w:=sortWorldK enc k w b 0 m dk os) (w':=w'') ⟨q2.os,q2.tape,q2.output,q2.size,fun j hj=>q2.heap j hj fun h=>h⟩;have hd:=q5 rfl;refine⟨d-(sortWorldK enc k w b 0 m dk os).drawn,os',?_⟩;have hdd:w''.drawn=d:=by rw[hw];rfl
     rw[hw];simp only[grow,redrawn,World.drewN]
     congr 1
     omega
   have hds:(Array.ofFn (id:Fin xs.length->Fin xs.length)).size=xs.length:=by simp
   have hdi:∀(j:Nat) (hj:j<xs.length),(Array.ofFn (id:Fin xs.length->Fin xs.length))[j]! =⟨j,hj⟩:=by
    intro j hj;rw[getElem!_pos _ j (by simpa using hj)];simp
   have hdm:∀j,j<xs.length*k->j / k<xs.length/\j % k<k/\j / k*k+j % k=j:=fun j hj=>
    ⟨(Nat.div_lt_iff_lt_mul hp).2 hj,Nat.mod_lt _ hp,Nat.div_add_mod' j k⟩
   have hH:HoldsK enc k w b 0 (Array.ofFn (id:Fin xs.length->Fin xs.length)):=by
    intro j hj;rw[size_flatK,hds]at hj;obtain⟨d1,d2,d3⟩:=hdm j hj;rw[get_flatK _ _ _ _ (by rw[hds];exact hj),hdi _ d1,hget _ _ d2,d3]
    have hjc:j<cells.size:=by
     have:=hmul _ d1;have:j<j / k*k+k:=by omega
     omega
    refine⟨?_,?_⟩
    ·simp only[World.cell?,hb,BT,id];rw[getElem!_pos cells j hjc];simp[hjc]
    ·simp only[World.frozen?,hb,BT];rcases hfz with h|h
     ·simp;omega
     ·simp;omega
   have hblk:b<w.heap.size:=(BV.1 hb).1;have hsz:(Array.ofFn (id:Fin xs.length->Fin xs.length)).size<4611686018427387904:=by rw[hds];have:xs.length<=281474976710656:=hl.2;omega
   have hcon:=AnyQ.slices_SortFunc_eq L k aE zE enc hk hone (N8 xs F) hO' g lb b 0 cap (Array.ofFn id) w (ABl hent) (by rw[hds];exact hcmp) hH hblk hsz;have hsorts:=pdq_sorts (ltOf (N8 xs F)) hO' (Array.ofFn (id:Fin xs.length->Fin xs.length)) 0 xs.length (Lib.bitLen xs.length) true true (BI _) (by rw[hds];exact AM _) (.inl rfl);rw[hds]at hcon;have hD:pdq (ltOf (N8 xs F)) (Array.ofFn (id:Fin xs.length->Fin xs.length)) 0 xs.length (Lib.bitLen xs.length) true true=JR xs F h0:=(zP xs F h0).symm;rw[hD]at hcon hsorts;have hDs:(JR xs F h0).size=xs.length:=by have:=hsorts.1.1;rw[hds]at this;exact this
   refine hcon.mono fun e w' ⟨he,n,os,hw⟩=>?_;obtain⟨a1,a2,a3,a4⟩:=A1S (enc:=enc) (k:=k) (n:=n) (D:=JR xs F h0) (os:=os) hb;obtain⟨x1,x2⟩:=A1T (enc:=enc) (k:=k) (n:=n) (D:=JR xs F h0) (os:=os) hb hm (hI rfl) hO;rw[<-hw]at a1 a2 a3 a4 x1 x2
   have hlen:(show List p.T from r).length=xs.length:=by
    have:((JR xs F h0).toList.map xs.get).length=xs.length:=by rw[AL,BY,hDs]
    rw[hr]at this;exact this
   have hpc:(putCells id 0 (flatK enc k (JR xs F h0)) cells).size=cells.size:=by simp[putCells]
   refine⟨_,[],I,[b],he,rfl,rfl,⟨x1,fun j hj hn=>a2 j (fun e=>hn (by rw[e];simp)) hj,a3,fun _ _ h=>.inl h,fun _ h=>.inl h,x2.1,x2.2.1,by rw[hw];rfl,by rw[hw];rfl,by rw[hw];rfl,x2.2.2⟩,?_,by simp,fun j hj=>.inl (by simpa using hj),fun _=>by rw[a4];omega⟩;refine⟨_,rfl,.inr ⟨b,cap,_,?_,rfl,?_,⟨fz,a1,by rw[hpc];exact hfz⟩,by rw[hpc];exact hcs,?_,hI,(fun h=>by cases h),hO⟩⟩
   ·exact congrArg (fun n=>[Value.slice (some ⟨b,0,none⟩) n cap]) hlen.symm
   ·have:HE xs.length cap:=hl;rw[<-hlen]at this;exact this
   ·intro i y hy;have hy:((JR xs F h0).toList.map xs.get)[i]?=some y:=by rw[hr];exact hy
    rw[AK]at hy;cases hi:(JR xs F h0).toList[i]? with
    |none=>rw[hi]at hy;cases hy
    |some q=>
     rw[hi]at hy;cases hy;have hil:i<xs.length:=by have:=(AE.1 hi).1;rw[BY,hDs]at this;exact this
     have hDi:(JR xs F h0)[i]! =q:=by
      have:=(AE.1 hi).2;rw[getElem!_pos _ i (by rw[hDs];exact hil)];simpa using this
     have heq:((putCells id 0 (flatK enc k (JR xs F h0)) cells).toList.drop (i*k)).take k=enc q:=by
      apply BW;intro c;by_cases hc:c<k
      ·have hlt:i*k+c<cells.size:=by have:=hmul i hil;omega
       have hlt2:i*k+c<xs.length*k:=by
        have:(i+1)*k<=xs.length*k:=B2 k (by omega);rw[CT]at this;omega
       have hdiv:(i*k+c) / k=i:=by rw[D6,Nat.mul_add_div hp,Nat.div_eq_of_lt hc];omega
       have hmod:(i*k+c) % k=c:=by rw[D6,Nat.mul_add_mod,Nat.mod_eq_of_lt hc]
       rw[AX,if_pos hc,A_,BL];simp only[putCells,Array.getElem?_mapIdx];rw[B3 hlt];simp only[BF];rw[if_pos ⟨BI _,by rw[size_flatK,hDs];omega⟩,Nat.sub_zero,get_flatK _ _ _ _ (by rw[hDs];exact hlt2),hdiv,hmod,hDi];rw[getElem!_pos (enc q) c (by rw[hk];exact hc)];simp[hk,hc]
      ·rw[B1 (by simp;omega),B1 (by rw[hk];omega)]
     rw[show(Ty.agg p).sz=k from rfl,heq];exact(hrel q).ext x1
  ·have hx:xs=[]:=AT (by omega);exact none_ (some ⟨b,0,none⟩) cap (by rw[e1,hx];rfl) hx
end
end Go.Ev.Pv
namespace Go.Proofs
open Tryz
theorem fk{α:Type}{a:Option α}{b c:α}(h:a=some b)(k:b=c:=by kernel_rfl):a=some c:=h.trans (congrArg some k)
open Go.Shelf
def Tryz.lays169_ren:Go.Shelf.Ren:=⟨fun|169=>190|n=>n,fun|70=>297|9=>9|0=>0|72=>300|37=>298|127=>347|3=>3|5=>5|n=>n,fun|n=>n⟩
theorem Tryz.lays169:Go.Proofs.Lays.n169 Tryz.prog Tryz.lays169_ren:=by repeat' first|(intros;kernel_rfl)|decide|constructor
theorem Tryz.Builder_Extra_169:Builder.Extra Tryz.prog Tryz.lays169_ren:=by repeat' first|(intros;kernel_rfl)|decide|constructor
def Tryz.lays159_ren:Go.Shelf.Ren:=⟨fun|159=>175|165=>233|166=>187|167=>234|169=>190|230=>235|204=>236|240=>239|241=>272|197=>273|118=>274|168=>275|270=>276|262=>277|276=>280|277=>300|260=>301|242=>302|313=>303|278=>329|274=>330|275=>331|n=>n,fun|9=>9|4=>4|3=>3|5=>5|72=>300|0=>0|76=>305|75=>304|107=>342|70=>297|20=>20|37=>298|127=>347|21=>21|105=>373|164=>380|162=>402|203=>400|119=>424|46=>185|139=>427|138=>426|51=>251|160=>428|208=>448|206=>446|80=>214|n=>n,fun|13=>1|3=>2|4=>3|n=>n⟩
theorem Tryz.lays159:Go.Proofs.Lays.n159 Tryz.prog Tryz.lays159_ren:=by repeat' first|(intros;kernel_rfl)|decide|constructor
theorem Tryz.Builder_Extra_159:Builder.Extra Tryz.prog Tryz.lays159_ren:=by repeat' first|(intros;kernel_rfl)|decide|constructor
def Tryz.lays156_ren:Go.Shelf.Ren:=⟨fun|156=>202|165=>233|166=>187|169=>190|240=>239|241=>272|276=>280|277=>300|n=>n,fun|31=>28|9=>9|3=>3|4=>4|0=>0|20=>20|72=>300|76=>305|70=>297|37=>298|75=>304|127=>347|164=>380|5=>5|80=>214|n=>n,fun|n=>n⟩
theorem Tryz.lays156:Go.Proofs.Lays.n156 Tryz.prog Tryz.lays156_ren:=by repeat' first|(intros;kernel_rfl)|decide|constructor
theorem Tryz.Builder_Extra_156:Builder.Extra Tryz.prog Tryz.lays156_ren:=by repeat' first|(intros;kernel_rfl)|decide|constructor
open Go.RowKit in
theorem Tryz.strings_Join_none(a:Option Addr)(c:Nat)(sep:ByteArray)(w:World):
 Calls Tryz.prog 202 #[.slice a 0 c,.string sep] w fun e w'=>e=.returned (.string ⟨#[]⟩)/\w'=w:=Any.strings_Join_none Tryz.lays156 Tryz.Builder_Extra_156 a c sep w
open Go.RowKit in
theorem Tryz.strings_Join(bk o c:Nat)(xs:List ByteArray)(sep:ByteArray)(w:World)(hcells:∀(j:Nat) x,xs[j]?=some x->w.cell? ⟨bk,o+j,none⟩=some (.string x))(hbk:bk<w.heap.size)(hN:xs.length<=140737488355328)(hcap:xs.length<=c)(hlen:(Lib.join (xs.map (·.data.toList)) sep.data.toList).length<=140737488355328):
 Calls Tryz.prog 202 #[.slice (some ⟨bk,o,none⟩) xs.length c,.string sep] w fun e w'=>e=.returned (.string ⟨(Lib.join (xs.map (·.data.toList)) sep.data.toList).toArray⟩)/\Below w.heap.size w w':=Any.strings_Join Tryz.lays156 Tryz.Builder_Extra_156 bk o c xs sep w hcells hbk hN hcap hlen
def Tryz.lays137_ren:Go.Shelf.Ren:=⟨fun|137=>211|217=>250|266=>288|n=>n,fun|9=>9|5=>5|3=>3|n=>n,fun|n=>n⟩
theorem Tryz.lays137:Go.Proofs.Lays.n137 Tryz.prog Tryz.lays137_ren:=by repeat' first|(intros;kernel_rfl)|decide|constructor
open Go.RowKit in
theorem Tryz.strings_IndexByte(s:ByteArray)(c:Int)(w:World):
 Calls Tryz.prog 211 #[.string s,.int .u8 c] w fun e w'=>e=.returned (.int .i64 (Lib.indexByte s.data.toList c.toNat.toUInt8))/\w'=w:=Any.strings_IndexByte Tryz.lays137 s c w
def Tryz.lays103_ren:Go.Shelf.Ren:=⟨fun|103=>231|210=>268|206=>298|n=>n,fun|9=>9|4=>4|24=>127|3=>3|n=>n,fun|n=>n⟩
theorem Tryz.lays103:Go.Proofs.Lays.n103 Tryz.prog Tryz.lays103_ren:=by repeat' first|(intros;kernel_rfl)|decide|constructor
open Go.RowKit in
theorem Tryz.strings_CutPrefix(s p:ByteArray)(w:World):
 Calls Tryz.prog 231 #[.string s,.string p] w fun e w'=>e=.returned (.tuple #[.string ⟨(Lib.trimPrefix s.data.toList p.data.toList).toArray⟩,.bool (Lib.hasPrefix s.data.toList p.data.toList)])/\w'=w:=Any.strings_CutPrefix Tryz.lays103 s p w
def Tryz.laysM171_ren:Go.Shelf.Ren:=⟨fun|171=>240|243=>281|246=>309|283=>335|284=>336|285=>337|286=>338|129=>145|317=>349|318=>350|319=>351|320=>352|337=>355|338=>356|n=>n,fun|3=>3|9=>9|2=>2|4=>4|171=>436|0=>0|53=>253|37=>298|5=>5|173=>438|212=>454|51=>251|20=>20|213=>455|46=>185|232=>457|233=>458|n=>n,fun|17=>6|18=>7|19=>8|n=>n⟩
theorem Tryz.laysM171:Go.Proofs.LaysM.n171 Tryz.prog Tryz.laysM171_ren:=by repeat' first|(intros;kernel_rfl)|decide|constructor
def Tryz.laysC172_ren:Go.Shelf.Ren:=⟨fun|172=>238|244=>278|245=>279|247=>304|279=>305|280=>306|281=>307|282=>308|287=>332|316=>333|171=>240|205=>334|321=>347|322=>348|243=>281|246=>309|283=>335|284=>336|285=>337|286=>338|129=>145|317=>349|318=>350|319=>351|320=>352|337=>355|338=>356|n=>n,fun|9=>9|3=>3|75=>304|76=>305|4=>4|5=>5|167=>403|37=>298|0=>0|85=>404|2=>2|168=>406|53=>253|175=>431|46=>185|210=>434|127=>347|145=>452|143=>450|21=>21|171=>436|173=>438|212=>454|51=>251|20=>20|213=>455|232=>457|233=>458|80=>214|n=>n,fun|15=>4|16=>5|17=>6|18=>7|19=>8|n=>n⟩
theorem Tryz.laysC172:Go.Proofs.LaysC.n172 Tryz.prog Tryz.laysC172_ren:=by repeat' first|(intros;kernel_rfl)|decide|constructor
open Go.RowKit in
theorem Tryz.strconv_Atoi_ok(s:ByteArray)(hmax:s.size<=9223372036854775806)(v:Int)(h:Lib.atoiAll s.data.toList=.ok v)(w:World):
 Calls Tryz.prog 238 #[.string s] w fun e w'=>e=.returned (.tuple #[.int .i64 v,.nilIface])/\(w'=w\/∃t,w'=Lib.bytesWorld w 5 t):=Any.strconv_Atoi_ok Tryz.laysC172 s hmax v h w
open Go.RowKit in
theorem Tryz.strconv_Atoi_syntax(s:ByteArray)(hlim:s.size<=281474976710656)(h:Lib.atoiAll s.data.toList=Lib.atoiAll [])(ev:Value)(w:World)(hv:w.cell? ⟨4,0,none⟩=some ev)(hev:ev=.nilIface\/∃te pe,ev=.iface te pe):
 Calls Tryz.prog 238 #[.string s] w fun e w'=>∃N,e=.returned (.tuple #[.int .i64 (0),.iface 406 (.pointer (some ⟨N,0,none⟩))])/\w.heap.size<=N/\w'.heap[N]?=some (.cells #[.string ⟨#[65,116,111,105]⟩,.string s,ev] 434 (0,0))/\Below w.heap.size w w':=Any.strconv_Atoi_syntax Tryz.laysC172 s hlim h ev w hv hev
open Go.RowKit in
theorem Tryz.strconv_Atoi_range(s:ByteArray)(hlim:s.size<=281474976710656)(h:Lib.atoiAll s.data.toList=.range)(ev:Value)(w:World)(hv:w.cell? ⟨5,0,none⟩=some ev)(hev:ev=.nilIface\/∃te pe,ev=.iface te pe):
 Calls Tryz.prog 238 #[.string s] w fun e w'=>∃N,e=.returned (.tuple #[.int .i64 (Lib.atoiSat s.data.toList),.iface 406 (.pointer (some ⟨N,0,none⟩))])/\w.heap.size<=N/\w'.heap[N]?=some (.cells #[.string ⟨#[65,116,111,105]⟩,.string s,ev] 434 (0,0))/\Below w.heap.size w w':=Any.strconv_Atoi_range Tryz.laysC172 s hlim h ev w hv hev
def Tryz.lays145_ren:Go.Shelf.Ren:=⟨fun|145=>223|220=>263|219=>297|217=>250|225=>326|224=>327|267=>328|266=>288|314=>346|n=>n,fun|9=>9|4=>4|59=>333|3=>3|5=>5|46=>185|146=>410|51=>251|n=>n,fun|1=>0|n=>n⟩
theorem Tryz.lays145:Go.Proofs.Lays.n145 Tryz.prog Tryz.lays145_ren:=by repeat' first|(intros;kernel_rfl)|decide|constructor
open Go.RowKit Go.Lib in
theorem Tryz.strings_Cut(s sep:ByteArray)(m:Int)(w:World)(hs:s.size<4294967281)(hm:w.cell? ⟨0,0,none⟩=some (.int .i64 m)):
 Calls Tryz.prog 223 #[.string s,.string sep] w fun e w'=>e=.returned (.tuple #[.string ⟨(Lib.cut s.data.toList sep.data.toList).1.toArray⟩,.string ⟨(Lib.cut s.data.toList sep.data.toList).2.1.toArray⟩,.bool (Lib.cut s.data.toList sep.data.toList).2.2])/\∃n,w'=w.drewN n:=Any.strings_Cut Tryz.lays145 s sep m w hs hm
def Tryz.lays149_ren:Go.Shelf.Ren:=⟨fun|149=>227|222=>264|n=>n,fun|9=>9|5=>5|3=>3|4=>4|n=>n,fun|n=>n⟩
theorem Tryz.lays149:Go.Proofs.Lays.n149 Tryz.prog Tryz.lays149_ren:=by repeat' first|(intros;kernel_rfl)|decide|constructor
open Go.RowKit Go.Lib in
theorem Tryz.strings_LastIndexByte(s:ByteArray)(c:Int)(hs:s.size<4611686018427387904)(w:World):
 Calls Tryz.prog 227 #[.string s,.int .u8 c] w fun e w'=>e=.returned (.int .i64 (Lib.lastIndexByte s c))/\w'=w:=Any.strings_LastIndexByte Tryz.lays149 s c hs w
def Tryz.lays99_ren:Go.Shelf.Ren:=⟨fun|99=>283|206=>298|n=>n,fun|9=>9|4=>4|3=>3|n=>n,fun|n=>n⟩
theorem Tryz.lays99:Go.Proofs.Lays.n99 Tryz.prog Tryz.lays99_ren:=by repeat' first|(intros;kernel_rfl)|decide|constructor
open Go.RowKit Go.Lib in
theorem Tryz.strings_HasPrefix(s p:ByteArray)(w:World):
 Calls Tryz.prog 283 #[.string s,.string p] w fun e w'=>e=.returned (.bool (Lib.hasPrefix s.data.toList p.data.toList))/\w'=w:=Any.strings_HasPrefix Tryz.lays99 s p w
def Tryz.lays101_ren:Go.Shelf.Ren:=⟨fun|101=>228|208=>265|206=>298|n=>n,fun|9=>9|4=>4|3=>3|n=>n,fun|n=>n⟩
theorem Tryz.lays101:Go.Proofs.Lays.n101 Tryz.prog Tryz.lays101_ren:=by repeat' first|(intros;kernel_rfl)|decide|constructor
open Go.RowKit Go.Lib in
theorem Tryz.strings_TrimPrefix(s p:ByteArray)(w:World):
 Calls Tryz.prog 228 #[.string s,.string p] w fun e w'=>e=.returned (.string ⟨(Lib.trimPrefix s.data.toList p.data.toList).toArray⟩)/\w'=w:=Any.strings_TrimPrefix Tryz.lays101 s p w
def Tryz.lays146_ren:Go.Shelf.Ren:=⟨fun|146=>249|221=>287|268=>313|138=>314|143=>315|195=>339|197=>273|218=>340|219=>297|260=>301|217=>250|225=>326|224=>327|267=>328|266=>288|314=>346|n=>n,fun|9=>9|31=>28|3=>3|4=>4|0=>0|105=>373|21=>21|5=>5|46=>185|119=>424|139=>427|138=>426|146=>410|51=>251|n=>n,fun|1=>0|3=>2|4=>3|n=>n⟩
theorem Tryz.lays146:Go.Proofs.Lays.n146 Tryz.prog Tryz.lays146_ren:=by repeat' first|(intros;kernel_rfl)|decide|constructor
open Go.RowKit Go.Lib in
theorem Tryz.strings_Split(s sep:ByteArray)(m:Int)(w:World)(hs:s.size<4294967281)(hm:w.cell? ⟨0,0,none⟩=some (.int .i64 m))(h1:1<=sep.size):
 Calls Tryz.prog 249 #[.string s,.string sep] w fun e w'=>
  e=.returned (.slice (some ⟨w.heap.size,0,none⟩) (Lib.countB s sep+1) (Lib.countB s sep+1))/\w'=w.alloc (.cells ((Lib.splitB sep 0 (Lib.countB s sep) s).map Value.string).toArray 9):=Any.strings_Split Tryz.lays146 (by kernel_rfl) s sep m w hs hm h1
def Tryz.lays105_ren:Go.Shelf.Ren:=⟨fun|105=>241|212=>282|99=>283|165=>233|166=>187|170=>284|169=>190|263=>310|264=>311|206=>298|240=>239|241=>272|276=>280|277=>300|n=>n,fun|9=>9|3=>3|4=>4|20=>20|0=>0|46=>185|109=>382|5=>5|72=>300|76=>305|51=>251|146=>410|53=>253|148=>412|70=>297|37=>298|75=>304|127=>347|164=>380|80=>214|n=>n,fun|n=>n⟩
theorem Tryz.lays105:Go.Proofs.Lays.n105 Tryz.prog Tryz.lays105_ren:=by repeat' first|(intros;kernel_rfl)|decide|constructor
theorem Tryz.Builder_Extra_105:Builder.Extra Tryz.prog Tryz.lays105_ren:=by repeat' first|(intros;kernel_rfl)|decide|constructor
open Go.RowKit Go.Lib in
theorem Tryz.strings_Repeat(s:ByteArray)(c:Nat)(w:World)(hc:c<=9223372036854775807)(hlen:s.size*c<=140737488355328):
 Calls Tryz.prog 241 #[.string s,.int .i64 c] w fun e w'=>e=.returned (.string ⟨(Lib.repeatL s.data.toList c).toArray⟩)/\Below w.heap.size w w':=Any.strings_Repeat Tryz.lays105 Tryz.Builder_Extra_105 s c w hc hlen
def Tryz.lays229_ren:Go.Shelf.Ren:=⟨fun|229=>269|n=>n,fun|9=>9|40=>372|31=>28|152=>395|3=>3|0=>0|4=>4|21=>21|154=>397|n=>n,fun|n=>n⟩
theorem Tryz.lays229:Go.Proofs.Lays.n229 Tryz.prog Tryz.lays229_ren:=by repeat' first|(intros;kernel_rfl)|decide|constructor
open Go.RowKit Go.Lib in
theorem Tryz.strings_ToLower_any(s:ByteArray)(w:World)(hs:s.size<35184372088832)(hV:CaseVar 1 caseA w)(hT:Lib.Utf8Tabs 2 3 w):
 Calls Tryz.prog 175 #[.string s] w fun e w'=>e=.returned (.string ⟨(Lib.toLowerD s.data.toList).toArray⟩)/\Below w.heap.size w w':=Any.strings_ToLower_any Tryz.lays159 Tryz.Builder_Extra_159 s w hs hV hT
end Go.Proofs
namespace Go.Ev.Pv
open Go.Proofs Go.RowKit Go.Lib
def HoldsTab(w:World)(g:Nat)(k:IntKind)(zs:List Int):Prop:=∃el fz,w.heap[g]?=some (.cells (zs.map fun z=>Value.int k z).toArray el fz)
theorem ABp{P:Program}{w:World}{n:String}{g:Nat}{k:IntKind}{zs:List Int}(hg:P.globalNamed n=some g)(h:HoldsTab w g k zs):Lib.TabIs P w n k zs:=by
 obtain⟨el,fz,h⟩:=h;unfold Lib.TabIs World.var?;rw[hg];simp only[A0,h]
theorem rZ{w:World}{b:Nat}{o:Go.Obj}(h:w.heap[b]?=some o):b<w.heap.size:=(BV.1 h).1
def Facts(w:World):Prop:=
 HoldsTab w 6 .u64 Lib.pow10Tab/\CaseVar 1 caseA w/\Lib.Utf8Tabs 2 3 w/\(∃m,w.cell? ⟨0,0,none⟩=some (.int .i64 m))/\
 (∃ev,w.cell? ⟨4,0,none⟩=some ev/\(ev=.nilIface\/∃te pe,ev=.iface te pe))/\(∃ev,w.cell? ⟨5,0,none⟩=some ev/\(ev=.nilIface\/∃te pe,ev=.iface te pe))
theorem WJ{w:World}{b o:Nat}{v:Value}(h:w.cell? ⟨b,o,none⟩=some v):b<w.heap.size:=by
 apply C2;intro hn;simp only[World.cell?,Array.getElem?_eq_none (DR hn)]at h;cases h
theorem Facts.below{w w':World}(h:Facts w)(hb:Below w.heap.size w w'):Facts w':=by
 obtain⟨h1,h2,h3,⟨m,h4⟩,⟨e1,h5,h5'⟩,e2,h6,h6'⟩:=h;exact⟨(let ⟨el,fz,h1⟩:=h1;⟨el,fz,(hb.block 6 (rZ h1)).trans h1⟩),CaseVar_below h2 hb,Utf8Tabs_below h3 hb,⟨m,(hb.cell (WJ h4)).trans h4⟩,⟨e1,(hb.cell (WJ h5)).trans h5,h5'⟩,e2,(hb.cell (WJ h6)).trans h6,h6'⟩
theorem Facts.later{w w':World}(h:Facts w)(hb:∀b,b<w.heap.size->w'.heap[b]?=w.heap[b]?):Facts w':=by
 have hs:w.heap.size<=w'.heap.size:=by
  apply C2;intro hn;have h1:=hb w'.heap.size (by omega);rw[Array.getElem?_eq_none (AM _),B3 (by omega)]at h1;cases h1
 have hB:Below w.heap.size w {w' with os:=w.os,tape:=w.tape,output:=w.output}:=⟨rfl,rfl,rfl,hs,hb⟩;have h2:=h.below hB;exact h2
noncomputable instance:Pins:=⟨Tryz.prog,fun w I=>∃w0,Facts w0/\∀b,b<w0.heap.size->I.obj b/\w.heap[b]?=w0.heap[b]?,
 fun⟨w0,h1,h2⟩ e=>⟨w0,h1,fun b hb=>⟨(e.obj b (h2 b hb).1).1,(e.obj b (h2 b hb).1).2.trans (h2 b hb).2⟩⟩⟩
theorem facts{w:World}{I:Im}(h:HU w I):Facts w:=let ⟨_,h1,h2⟩:=h.2.2;h1.later fun b hb=>(h2 b hb).2
theorem JF{f:Nat}{fn:Func}(h:Tryz.prog.funcs[f]?=some fn)(hn:(fn.name== "runtime.NumGoroutine")=false)(hb:fn.body=some (F0 fn)):FF Tryz.prog f:=⟨fn,_,h,hn,hb⟩
def ABq:FSpec:=⟨[.val (.int .i64)],[.val .str],strconv_Itoa,true⟩
theorem M3:FF Go.Proofs.Tryz.prog 240/\FunOK Go.Proofs.Tryz.prog 240 ABq:=by
 refine⟨JF Tryz.func240 (by kernel_rfl) (by kernel_rfl),FunOK.flat1 (t:=.str) rfl rfl (fun args=>by cases args<;>rfl) fun w I v args bs hm hsh r hr=>?_⟩;obtain⟨rfl,x,rfl,hx⟩:=rY hsh;obtain⟨rfl,h0,h1⟩:=eT hx;cases hr;refine⟨rfl,.string ⟨(O8 v).toArray⟩,fun w' I'=>KO (M2 (AZ (zO v) (by decide))),?_⟩;rw[ABd h0 h1];refine(Any.strconv_Itoa Tryz.laysM171 v h0 h1 w (ABp (g:=6) (by kernel_rfl) (facts hm).1)).mono fun e w' ⟨he,k,os,hw⟩=>⟨he,?_,fun _=>?_⟩
 ·rw[hw];exact Lib.below_grow _ w (AM _) k os
 ·rw[hw];exact Nat.le_add_right _ _
theorem PS{w w':World}{D:Prop}(h:w'=w):Below w.heap.size w w'/\(D->w.drawn<=w'.drawn):=by
 subst h;exact⟨Below.refl _ _,fun _=>AM _⟩
theorem A1U{w w':World}{D:Prop}(h:∃n,w'=w.drewN n):Below w.heap.size w w'/\(D->w.drawn<=w'.drawn):=by
 obtain⟨n,rfl⟩:=h;exact⟨⟨rfl,rfl,rfl,AM _,fun _ _=>rfl⟩,fun _=>Nat.le_add_right _ _⟩
theorem WK{a:E1}{n:Nat}(h:a.length<n):(⟨a.toArray⟩:ByteArray).size<n:=by rw[KF];exact h
theorem ABr{a:E1}{k n:Nat}(h:a.length*k<=n):(⟨a.toArray⟩:ByteArray).size*k<=n:=by rw[KF];exact h
theorem ABs(s p:E1):(Lib.cut s p).1.length<=s.length/\(Lib.cut s p).2.1.length<=s.length:=by
 unfold Lib.cut;split
 ·simp only[B4,CF];omega
 ·simp
theorem ABt{s:E1}{k:Nat}(h:s.length*k<=140737488355328):(Lib.repeatL s k).length<=281474976710656:=by rw[Lib.repeatL_length,D6];omega
theorem WL{n:Int}(h1:-9223372036854775808<=n)(h2:n<=9223372036854775807):GI .i64 n:=⟨h1,h2⟩
theorem ABu{n:Int}(h:GI .i64 n):n<=9223372036854775807:=h.2
theorem ABv(c:UInt8):∀l:List UInt8,Lib.indexByte l c<=l.length:=by
 intro l;induction l with
 |nil=>simp[Lib.indexByte]
 |cons b l ih=>
  simp only[Lib.indexByte,AD]
  repeat' split
  all_goals omega
def ABw:FSpec:=⟨[.val .str,.val (.int .u8)],[.val (.int .i64)],strings_IndexByte,true⟩
theorem SN:FF Go.Proofs.Tryz.prog 211/\FunOK Go.Proofs.Tryz.prog 211 ABw:=by
 refine⟨JF Tryz.func211 (by kernel_rfl) (by kernel_rfl),FunOK.flat1 (t:=.int .i64) rfl rfl (fun args=>by rcases args with _|⟨_,_|⟨_,_⟩⟩<;>rfl) fun w I v args bs hm hsh r hr=>?_⟩;obtain⟨rfl,x,y,rfl,hx,hy⟩:=NJ hsh;obtain⟨rfl,h0⟩:=J1 hx;obtain⟨rfl,h1⟩:=eT hy;obtain⟨h2,hr⟩:=MH hr;cases hr;refine⟨rfl,_,fun w' I'=>KO (eU (k:=.i64) (n:=Lib.indexByte v.1 v.2.toNat.toUInt8) ?_),?_⟩
 ·have k1:=ABv v.2.toNat.toUInt8 v.1;have k2:=Lib.indexByte_ge v.1 v.2.toNat.toUInt8;exact WL (by omega) (by omega)
 ·exact(Tryz.strings_IndexByte ⟨v.1.toArray⟩ v.2 w).mono fun e w' ⟨he,hw⟩=>⟨he,PS hw⟩
theorem ABx(s:ByteArray)(c:Int):∀k,-1<=Lib.lastIdx s c k/\Lib.lastIdx s c k<=k:=by
 intro k;induction k with
 |zero=>simp[Lib.lastIdx]
 |succ k ih=>
  simp only[Lib.lastIdx];split<;>omega
def ABy:FSpec:=⟨[.val .str,.val (.int .u8)],[.val (.int .i64)],strings_LastIndexByte,true⟩
theorem ABz:FF Go.Proofs.Tryz.prog 227/\FunOK Go.Proofs.Tryz.prog 227 ABy:=by
 refine⟨JF Tryz.func227 (by kernel_rfl) (by kernel_rfl),FunOK.flat1 (t:=.int .i64) rfl rfl (fun args=>by rcases args with _|⟨_,_|⟨_,_⟩⟩<;>rfl) fun w I v args bs hm hsh r hr=>?_⟩;obtain⟨rfl,x,y,rfl,hx,hy⟩:=NJ hsh;obtain⟨rfl,h0⟩:=J1 hx;obtain⟨rfl,h1⟩:=eT hy;obtain⟨h2,hr⟩:=MH hr;cases hr;have hsz:(⟨v.1.toArray⟩:ByteArray).size=v.1.length:=KF v.1;refine⟨rfl,_,fun w' I'=>KO (eU (k:=.i64) (n:=Lib.lastIndexByte ⟨v.1.toArray⟩ v.2) ?_),?_⟩
 ·have k1:=ABx ⟨v.1.toArray⟩ v.2 (⟨v.1.toArray⟩:ByteArray).size;have k2:((⟨v.1.toArray⟩:ByteArray).size:Int)=(v.1.length:Nat):=by rw[hsz]
  unfold Lib.lastIndexByte;exact WL (by omega) (by omega)
 ·exact(Tryz.strings_LastIndexByte ⟨v.1.toArray⟩ v.2 (WK h2) w).mono fun e w' ⟨he,hw⟩=>⟨he,PS hw⟩
def AC0:FSpec:=⟨[.val .str,.val .str],[.val .bool],strings_HasPrefix,true⟩
theorem AC1:FF Go.Proofs.Tryz.prog 283/\FunOK Go.Proofs.Tryz.prog 283 AC0:=by
 refine⟨JF Tryz.func283 (by kernel_rfl) (by kernel_rfl),FunOK.flat1 (t:=.bool) rfl rfl (fun args=>by rcases args with _|⟨_,_|⟨_,_⟩⟩<;>rfl) fun w I v args bs hm hsh r hr=>?_⟩;obtain⟨rfl,x,y,rfl,hx,hy⟩:=NJ hsh;obtain⟨rfl,h0⟩:=J1 hx;obtain⟨rfl,h1⟩:=J1 hy;cases hr;exact⟨rfl,_,fun w' I'=>KO rX,(Tryz.strings_HasPrefix ⟨v.1.toArray⟩ ⟨v.2.toArray⟩ w).mono fun e w' ⟨he,hw⟩=>⟨he,PS hw⟩⟩
theorem trimPrefix_len(s p:E1):(Lib.trimPrefix s p).length<=s.length:=by
 unfold Lib.trimPrefix;split
 ·simp
 ·exact AM _
def AC2:FSpec:=⟨[.val .str,.val .str],[.val .str],strings_TrimPrefix,true⟩
theorem AC3:FF Go.Proofs.Tryz.prog 228/\FunOK Go.Proofs.Tryz.prog 228 AC2:=by
 refine⟨JF Tryz.func228 (by kernel_rfl) (by kernel_rfl),FunOK.flat1 (t:=.str) rfl rfl (fun args=>by rcases args with _|⟨_,_|⟨_,_⟩⟩<;>rfl) fun w I v args bs hm hsh r hr=>?_⟩;obtain⟨rfl,x,y,rfl,hx,hy⟩:=NJ hsh;obtain⟨rfl,h0⟩:=J1 hx;obtain⟨rfl,h1⟩:=J1 hy;cases hr;exact⟨rfl,_,fun w' I'=>KO (M2 (AZ (trimPrefix_len v.1 v.2) h0)),(Tryz.strings_TrimPrefix ⟨v.1.toArray⟩ ⟨v.2.toArray⟩ w).mono fun e w' ⟨he,hw⟩=>⟨he,PS hw⟩⟩
def AC4:FSpec:=⟨[.val .str,.val .str],[.val .str,.val .bool],strings_CutPrefix,true⟩
theorem AC5:FF Go.Proofs.Tryz.prog 231/\FunOK Go.Proofs.Tryz.prog 231 AC4:=by
 refine⟨JF Tryz.func231 (by kernel_rfl) (by kernel_rfl),FunOK.given fun w I v args bs hm hsh r hr=>?_⟩;obtain⟨rfl,x,y,rfl,hx,hy⟩:=NJ hsh;obtain⟨rfl,h0⟩:=J1 hx;obtain⟨rfl,h1⟩:=J1 hy;cases hr;refine⟨rfl,(Tryz.strings_CutPrefix ⟨v.1.toArray⟩ ⟨v.2.toArray⟩ w).mono fun e w' ⟨he,hw⟩=>⟨_,[_,_],OE,he,rfl,rfl,(PS (D:=True) hw).1,fun _=>(PS hw).2 trivial,PR,?_⟩⟩;exact ABj (a:=.str) (b:=.bool) (x:=(Lib.trimPrefix v.1 v.2,Lib.hasPrefix v.1 v.2)) (M2 (AZ (trimPrefix_len v.1 v.2) h0)) rX
def AC6:FSpec:=⟨[.val .str,.val .str],[.val .str,.val .str,.val .bool],strings_Cut,true⟩
theorem A1V:FF Go.Proofs.Tryz.prog 223/\FunOK Go.Proofs.Tryz.prog 223 AC6:=by
 refine⟨JF Tryz.func223 (by kernel_rfl) (by kernel_rfl),FunOK.given fun w I v args bs hm hsh r hr=>?_⟩;obtain⟨rfl,x,y,rfl,hx,hy⟩:=NJ hsh;obtain⟨rfl,h0⟩:=J1 hx;obtain⟨rfl,h1⟩:=J1 hy;obtain⟨h2,hr⟩:=MH hr;cases hr;obtain⟨m,hmm⟩:=(facts hm).2.2.2.1;refine⟨rfl,(Tryz.strings_Cut ⟨v.1.toArray⟩ ⟨v.2.toArray⟩ m w (WK h2) hmm).mono fun e w' ⟨he,hw⟩=>⟨_,[_,_,_],OE,he,rfl,rfl,(A1U (D:=True) hw).1,fun _=>(A1U hw).2 trivial,PR,?_⟩⟩;have hl:=ABs v.1 v.2;exact ABk (a:=.str) (b:=.str) (c:=.bool) (x:=Lib.cut v.1 v.2) (M2 (AZ hl.1 h0)) (M2 (AZ hl.2 h0)) rX
def AC7:FSpec:=⟨[.val .str,.val (.int .i64)],[.val .str],strings_Repeat,false⟩
theorem AC8:FF Go.Proofs.Tryz.prog 241/\FunOK Go.Proofs.Tryz.prog 241 AC7:=by
 refine⟨JF Tryz.func241 (by kernel_rfl) (by kernel_rfl),FunOK.flat1 (t:=.str) rfl rfl (fun args=>by rcases args with _|⟨_,_|⟨_,_⟩⟩<;>rfl) fun w I v args bs hm hsh r hr=>?_⟩;obtain⟨rfl,x,y,rfl,hx,hy⟩:=NJ hsh;obtain⟨rfl,h0⟩:=J1 hx;obtain⟨rfl,h1⟩:=eT hy;obtain⟨⟨h2,h3⟩,hr⟩:=MH hr;cases hr;have hn:((v.2.toNat:Nat):Int)=v.2:=Int.toNat_of_nonneg h2
 have hk:v.2.toNat<=9223372036854775807:=by
  have:=ABu h1;omega
 have hlen:=ABt h3;refine⟨rfl,_,fun w' I'=>KO (M2 hlen),?_⟩;have:=Tryz.strings_Repeat ⟨v.1.toArray⟩ v.2.toNat w hk (ABr h3);rw[hn]at this;exact this.mono fun e w' ⟨he,hw⟩=>⟨he,hw,fun h=>by cases h⟩
def AC9:FSpec:=⟨[.val .str],[.val .str],UY,false⟩
theorem A1W:FF Go.Proofs.Tryz.prog 175/\FunOK Go.Proofs.Tryz.prog 175 AC9:=by
 refine⟨JF Tryz.func175 (by kernel_rfl) (by kernel_rfl),FunOK.flat1 (t:=.str) rfl rfl (fun args=>by cases args<;>rfl) fun w I v args bs hm hsh r hr=>?_⟩;obtain⟨rfl,x,rfl,hx⟩:=rY hsh;obtain⟨rfl,h0⟩:=J1 hx;obtain⟨h2,hr⟩:=MH hr;obtain⟨rfl,h3⟩:=str?_some hr;exact⟨rfl,_,fun w' I'=>KO (M2 h3),(Tryz.strings_ToLower_any ⟨v.toArray⟩ w (WK h2) (facts hm).2.1 (facts hm).2.2.1).mono fun e w' ⟨he,hw⟩=>⟨he,hw,fun h=>by cases h⟩⟩
theorem ACA(w:World)(t:TypeId)(s:ByteArray):Below w.heap.size w (Lib.bytesWorld w t s):=by
 unfold Lib.bytesWorld;exact Lib.below_freeze (((Below.refl _ _).drew).alloc (AM _) _) (p:=⟨w.heap.size,_,none⟩) (AM _) _
def ACB:FSpec:=⟨[.val .str],[.val (.int .i64),.any],ZT,false⟩
theorem r_{P:Program}{w:World}{I:Im}{n:Int}(h:GI .i64 n)(v:Value):ShL P w I [.val (.int .i64),.any] (n,()) [.int .i64 n,v] []:=
 ⟨_,_,[],[],rfl,rfl,⟨eU h,rfl⟩,v,rfl,rfl⟩
theorem ACC{s:E1}{v:Int}(h:Lib.atoiAll s=.ok v):GI .i64 v:=by
 unfold Lib.atoiAll at h;split at h
 ·cases h
 ·simp only at h;split at h
  ·cases h
  ·cases h
  ·rename_i u hu;split at h
   ·cases h
   ·split at h
    ·cases h
    ·cases h;split<;>exact WL (by omega) (by omega)
theorem ACD(s:E1):GI .i64 (Lib.atoiSat s):=by
 unfold Lib.atoiSat;split<;>exact WL (by decide) (by decide)
theorem strconv_Atoi_ok:FF Go.Proofs.Tryz.prog 238/\FunOK Go.Proofs.Tryz.prog 238 ACB:=by
 refine⟨JF Tryz.func238 (by kernel_rfl) (by kernel_rfl),FunOK.given fun w I v args bs hm hsh r hr=>?_⟩;obtain⟨rfl,x,rfl,hx⟩:=rY hsh;obtain⟨rfl,h0⟩:=J1 hx;obtain⟨h2,hr⟩:=MH hr;have hs:(⟨Array.mk v⟩:ByteArray).size<=281474976710656:=by have:=WK (a:=v) (n:=281474976710657) (by omega);exact Nat.le_of_lt_succ this
 refine⟨rfl,?_⟩;obtain⟨_,_,_,_,⟨e5,h5,h5'⟩,e6,h6,h6'⟩:=facts hm;cases hn:Lib.atoiAll v
 ·rename_i n;rw[hn]at hr;dsimp only at hr;cases hr;refine(Tryz.strconv_Atoi_ok ⟨v.toArray⟩ (AZ hs (by decide)) n hn w).mono fun e w' ⟨he,hw⟩=>⟨_,[_,_],OE,he,rfl,rfl,?_,(fun h=>by cases h),PR,r_ (ACC hn) _⟩;rcases hw with rfl|⟨t,rfl⟩
  ·exact Below.refl _ _
  ·exact ACA _ _ _
 ·rw[hn]at hr;dsimp only at hr;cases hr;exact(Tryz.strconv_Atoi_syntax ⟨v.toArray⟩ hs hn e5 w h5 h5').mono fun e w' ⟨N,he,_,_,hw⟩=>⟨_,[_,_],OE,he,rfl,rfl,hw,(fun h=>by cases h),PR,r_ (WL (by decide) (by decide)) _⟩
 ·rw[hn]at hr;dsimp only at hr;cases hr;exact(Tryz.strconv_Atoi_range ⟨v.toArray⟩ hs hn e6 w h6 h6').mono fun e w' ⟨N,he,_,_,hw⟩=>⟨_,[_,_],OE,he,rfl,rfl,hw,(fun h=>by cases h),PR,r_ (ACD v) _⟩
theorem A1X{P:Program}{w:World}{I:Im}{X:Nat->Nat->Prop}{b cap:Nat}{xs:List E1}{cells:Array Value}{el:TypeId}{fz:Nat×Nat}(hb:w.heap[b]?=some (.cells cells el fz))(hlen:xs.length<=cap)(hl:xs.length<=281474976710656)
 (hc:∀(i:Nat) x,xs[i]?=some x->cells[i]?=some (.string ⟨x.toArray⟩))(hs:∀x∈xs,x.length<=281474976710656)(hX:∀o,o<xs.length->X b o):
 VRel w (SM I X) (.slice .str) xs (.slice (some ⟨b,0,none⟩) xs.length cap):=by
 refine⟨_,rfl,_,_,rfl,⟨hlen,hl⟩,(fun h=>by cases h),fun ad had=>?_⟩;cases had;refine⟨fun _=>rfl,fun i x hx=>⟨[.string ⟨(show E1 from x).toArray⟩],⟨rfl,fun j hj=>?_⟩,rfl,hs x (AP hx)⟩⟩;have hj0:j=0:=by have:j<1:=hj;omega
 subst hj0;have e:(0+i*Ty.str.sz+0)=i:=by show 0+i*1+0=i;omega
 have hi:i<xs.length:=(AE.1 hx).1;refine⟨.inr ?_,?_⟩
 ·rw[e];exact hX i hi
 ·show w.cell? ⟨b,0+i*Ty.str.sz+0,none⟩=_;rw[e];simp only[World.cell?,hb,hc i x hx];rfl
theorem ACE(sep:ByteArray)(h1:1<=sep.size):∀(k:Nat) (s:ByteArray),Lib.countB s sep=k->(Lib.splitB sep 0 k s).length=k+1:=by
 intro k;induction k with
 |zero=>intro s _;rfl
 |succ k ih=>
  intro s hk;by_cases hm:Lib.indexB s sep= -1
  ·rw[Lib.countB_miss s sep hm]at hk;cases hk
  ·have hge:=Lib.index_ge s.data.toList sep.data.toList;obtain⟨i,hi⟩:∃i:Nat,Lib.indexB s sep=i:=⟨(Lib.indexB s sep).toNat,by have:-1<=Lib.indexB s sep:=hge;omega⟩;rw[Lib.splitB_hit sep 0 k s i hi,AD,ih];have:=Lib.countB_hit s sep i h1 hi;omega
theorem ACF(sep:ByteArray)(n:Nat):∀(k:Nat) (s:ByteArray),s.size<=n->∀x∈Lib.splitB sep 0 k s,x.size<=n:=by
 intro k;induction k with
 |zero=>intro s hs x hx;rw[Lib.splitB_zero,AQ]at hx;subst hx;exact hs
 |succ k ih=>
  intro s hs x hx;unfold Lib.splitB at hx;split at hx
  ·rw[AQ]at hx;subst hx;exact hs
  ·rcases B6.1 hx with rfl|hx
   ·rw[D4];omega
   ·exact ih _ (by rw[D4];omega) x hx
def ACG:FSpec:=⟨[.val .str,.val .str],[.val (.slice .str)],strings_Split,true⟩
theorem A1Y:FF Go.Proofs.Tryz.prog 249/\FunOK Go.Proofs.Tryz.prog 249 ACG:=by
 refine⟨JF Tryz.func249 (by kernel_rfl) (by kernel_rfl),FunOK.given fun w I v args bs hm hsh r hr=>?_⟩;obtain⟨rfl,x,y,rfl,hx,hy⟩:=NJ hsh;obtain⟨rfl,h0⟩:=J1 hx;obtain⟨rfl,h1⟩:=J1 hy;obtain⟨⟨h2,h3⟩,hr⟩:=MH hr;cases hr;obtain⟨m,hmm⟩:=(facts hm).2.2.2.1;have h3':1<=(⟨Array.mk v.2⟩:ByteArray).size:=h3;have hlen:=ACE ⟨Array.mk v.2⟩ h3' _ ⟨Array.mk v.1⟩ rfl;refine⟨rfl,(Tryz.strings_Split ⟨v.1.toArray⟩ ⟨v.2.toArray⟩ m w (WK h2) hmm h3').mono fun e w' ⟨he,hw⟩=>?_⟩
 have hs1:w'.heap[w.heap.size]?=some (.cells ((Lib.splitB ⟨v.2.toArray⟩ 0 (Lib.countB ⟨v.1.toArray⟩ ⟨v.2.toArray⟩) ⟨v.1.toArray⟩).map Value.string).toArray 9 (0,0)):=by
  rw[hw];show(w.heap.push _)[w.heap.size]?=_;rw[CQ]
 have hbl:Below w.heap.size w w':=by rw[hw];exact(Below.refl _ _).alloc (AM _) _
 refine⟨_,[_],fun b o=>b=w.heap.size,he,rfl,rfl,hbl,?_,?_,KO ?_⟩
 ·intro _;rw[hw];exact AM _
 ·rintro b o rfl;exact⟨AM _,rZ hs1⟩
 ·have hcnt:Lib.countB ⟨Array.mk v.1⟩ ⟨Array.mk v.2⟩<=v.1.length+1:=Lib.count_le v.1 v.2
  have:=A1X (P:=Tryz.prog) (I:=I) (X:=fun b o=>b=w.heap.size) (xs:=(Lib.splitB ⟨v.2.toArray⟩ 0 (Lib.countB ⟨v.1.toArray⟩ ⟨v.2.toArray⟩) ⟨v.1.toArray⟩).map fun b=>b.data.toList)
   (cap:=Lib.countB ⟨v.1.toArray⟩ ⟨v.2.toArray⟩+1) hs1 ?_ ?_ ?_ ?_ (fun o _=>rfl)
  ·rw[AL]at this;rw[hlen]at this;exact this
  ·rw[AL];exact Nat.le_of_eq hlen
  ·rw[AL];refine AZ (Nat.le_of_eq hlen) ?_;have h2':v.1.length<4294967281:=h2;omega
  ·intro i x hx;rw[AK]at hx;cases hb:(Lib.splitB ⟨v.2.toArray⟩ 0 (Lib.countB ⟨v.1.toArray⟩ ⟨v.2.toArray⟩) ⟨v.1.toArray⟩)[i]? with
   |none=>rw[hb]at hx;cases hx
   |some b=>rw[hb]at hx;cases hx;simp[hb]
  ·intro x hx;obtain⟨b,hb,rfl⟩:=B_.1 hx;have:=ACF ⟨v.2.toArray⟩ v.1.length _ ⟨v.1.toArray⟩ (Nat.le_of_eq (KF v.1)) b hb;have e:b.data.toList.length=b.size:=rfl;rw[e];exact AZ this h0
theorem ACH{w:World}{I:Im}{xs:List E1}{v:Value}(h:VRel w I (.slice .str) xs v):
 (∃a cap,v=.slice a 0 cap/\xs=[])\/∃b o cap,v=.slice (some ⟨b,o,none⟩) xs.length cap/\b<w.heap.size/\xs.length<=cap/\
  ∀(j:Nat) x,xs[j]?=some x->w.cell? ⟨b,o+j,none⟩=some (.string ⟨x.toArray⟩)/\x.length<=281474976710656:=by
 obtain⟨c,h1,a,cap,h2,h3,h4,h5⟩:=h;have h1:c=[v]:=h1;rw[h1]at h2;have h2:v=.slice a xs.length cap:=A8.1 h2;by_cases he:xs=[]
 ·subst he;exact .inl ⟨a,cap,h2,rfl⟩
 ·right;cases a with
  |none=>exact absurd (h4 rfl).1 he
  |some ad=>
   obtain⟨hsp,h6⟩:=h5 ad rfl;obtain⟨b,o,sp⟩:=ad;have hsp:(⟨b,o,sp⟩:Addr).spot=none:=hsp fun h0=>he (AT (Nat.le_zero.1 (h0▸h3.1)));cases hsp
   have key:∀(j:Nat) x,xs[j]?=some x->w.cell? ⟨b,o+j,none⟩=some (.string ⟨x.toArray⟩)/\x.length<=281474976710656:=by
    intro j x hx;obtain⟨c',⟨k1,k2⟩,k3,k4⟩:=h6 j x hx;have:=(k2 0 Nat.one_pos).2;rw[k3]at this;exact⟨by rw[<-show o+j*Ty.str.sz+0=o+j by show o+j*1+0=o+j;omega];exact this,k4⟩
   have hpos:0<xs.length:=List.length_pos_iff.2 he;exact⟨b,o,cap,h2,WJ (key 0 xs[0] (A1 hpos)).1,h3.1,key⟩
def ACI:FSpec:=⟨[.val (.slice .str),.val .str],[.val .str],strings_Join,false⟩
theorem WM:FF Go.Proofs.Tryz.prog 202/\FunOK Go.Proofs.Tryz.prog 202 ACI:=by
 refine⟨JF Tryz.func202 (by kernel_rfl) (by kernel_rfl),FunOK.flat1 (t:=.str) rfl rfl (fun args=>by rcases args with _|⟨_,_|⟨_,_⟩⟩<;>rfl) fun w I v args bs hm hsh r hr=>?_⟩;obtain⟨rfl,x,y,rfl,hx,hy⟩:=NJ hsh;obtain⟨rfl,h1⟩:=J1 hy;obtain⟨⟨h2,h3⟩,hr⟩:=MH hr;cases hr;obtain⟨xs,sep⟩:List E1×E1:=v;have h3:(Lib.join xs sep).length<=140737488355328:=h3;have hout:(Lib.join xs sep).length<=281474976710656:=by omega
 rcases ACH hx with⟨a,cap,rfl,hxs⟩|⟨b,o,cap,rfl,hb,hcap,hcell⟩
 ·have hxs:xs=[]:=hxs;subst hxs;have e:Lib.join [] sep=[]:=by simp[Lib.join,List.intercalate]
  refine⟨rfl,.string ⟨(Lib.join [] sep).toArray⟩,fun w' I'=>KO (M2 hout),?_⟩;rw[e];exact(Tryz.strings_Join_none a cap ⟨sep.toArray⟩ w).mono fun e w' ⟨he,hw⟩=>⟨he,PS hw⟩
 ·refine⟨rfl,.string ⟨(Lib.join xs sep).toArray⟩,fun w' I'=>KO (M2 hout),?_⟩
  have hm1:(xs.map fun x=>(⟨x.toArray⟩:ByteArray)).map (fun b=>b.data.toList)=xs:=by
   rw[List.map_map];exact List.map_id _
  have:=Tryz.strings_Join b o cap (xs.map fun x=>⟨x.toArray⟩) ⟨sep.toArray⟩ w (fun j x hx=>by
   rw[AK]at hx;cases hj:xs[j]? with
   |none=>rw[hj]at hx;cases hx
   |some z=>rw[hj]at hx;cases hx;exact(hcell j z hj).1) hb (by rw[AL];exact h2) (by rw[AL];exact hcap) (by rw[hm1];exact h3)
  rw[hm1,AL]at this;exact this.mono fun e w' ⟨he,hw⟩=>⟨he,hw,fun h=>by cases h⟩
theorem After.toBelow{gv:Nat->Prop}{w w':World}{I I':Im}(h:After gv w I w' I')(hg:∀b,¬gv b):Below w.heap.size w w':=
 ⟨h.os,h.tape,h.output,h.size,fun b hb=>h.heap b hb (hg b)⟩
theorem ACJ{w w':World}{I:Im}(hm:HU w I)(hb:Below w.heap.size w w'):Ext w I w' I/\HU w' I:=by
 have he:Ext w I w' I:=⟨fun b o h=>⟨h,by simp only[World.cell?,hb.block b (hm.1 b o h)]⟩,fun b h=>⟨h,hb.block b (hm.2.1 b h)⟩⟩;exact⟨he,fun b o h=>BK (hm.1 b o h) hb.size,fun b h=>BK (hm.2.1 b h) hb.size,hm.2.2.ext he⟩
theorem ACK{P:Program}{g:Nat}(h:FF P g):∀args w,(callFunc g args).run P w=.ok (.enter g args) w:=by
 obtain⟨fn,c,h1,h2,h3⟩:=h;intro args w;have h2':fn.name≠"runtime.NumGoroutine" :=by simpa using h2
 simp[callFunc,h1,h2',h3]
theorem ACL(p:Nat->Bool)(s:ByteArray):∀x∈Lib.goFieldsP p s,x.size<=s.size:=by
 intro x hx;obtain⟨q,_,rfl⟩:=B_.1 hx;rw[D4];omega
noncomputable def ACM:FSpec:=⟨[.val .str,.hof false (.int .i32) .bool],[.val (.slice .str)],RX,false⟩
theorem ACN:FF Go.Proofs.Tryz.prog 269/\FunOK Go.Proofs.Tryz.prog 269 ACM:=by
 refine⟨JF Tryz.func269 (by kernel_rfl) (by kernel_rfl),FunOK.given fun w I v args bs hm hsh r hr=>?_⟩;obtain⟨a1,vs,b1,b2,rfl,rfl,⟨hx,rfl⟩,a2,rfl,rfl,g,lb,ha2,hent,hof⟩:=hsh;obtain⟨rfl,h0⟩:=J1 hx;obtain rfl:=A8.1 ha2;obtain⟨s,F⟩:E1×(Int->Option Bool):=v;have hr:RX (s,F)=some r:=hr;unfold RX at hr;obtain⟨⟨h1,h2,h3⟩,hr⟩:=MH hr;cases hr
 have hp:PredGrows Tryz.prog g lb (fun r=>(F (r:Int)).getD false) w:=by
  intro W x hx hb;obtain⟨he,hm'⟩:=ACJ hm hb;obtain⟨b,hb'⟩:=h2 x hx;have hb':F (x:Int)=some b:=hb';have:=hof W I he hm' (x:Int) [.int .i32 x] ⟨_,rfl,eU ⟨by show(-2147483648:Int)<=_;omega,by show _<=(2147483647:Int);omega⟩⟩ b hb';refine this.mono fun e w'' ⟨rv,I'',k1,k2,k3,_⟩=>?_;have hrv:=ABi k3;subst hrv;show e=.returned (.bool ((F (x:Int)).getD false))/\_;rw[hb'];exact⟨k1,After.toBelow k2 fun _ h=>h⟩
 have:=Any.strings_FieldsFunc_grows Tryz.lays229 g lb (ACK hent) (fun r=>(F (r:Int)).getD false) ⟨s.toArray⟩ w (by rw[KF];exact h1) hp (by kernel_rfl) (by kernel_rfl);refine⟨rfl,this.mono fun e w' ⟨A,he,hA,hown,hbl⟩=>?_⟩;obtain⟨_,hh|⟨g',cap,cur,k1,k2,k3,k4,k5,k6,k7⟩⟩:=hown
 ·cases hh.1
 ·obtain⟨rfl,rfl⟩:A=g'/\(Lib.goFieldsP (fun r=>(F (r:Int)).getD false) ⟨s.toArray⟩).length=cap:=by injection k1 with e1 e2 e3;injection e1 with e1;injection e1 with e1;exact⟨e1,e3⟩
  refine⟨_,[_],fun b o=>b=A,he,rfl,rfl,hbl,(fun h=>by cases h),?_,KO ?_⟩
  ·rintro b o rfl;exact⟨hA,rZ k3⟩
  ·have:=A1X (P:=Tryz.prog) (I:=I) (X:=fun b o=>b=A) (xs:=(Lib.goFieldsP (fun r=>(F (r:Int)).getD false) ⟨s.toArray⟩).map fun b=>b.data.toList)
    (cap:=(Lib.goFieldsP (fun r=>(F (r:Int)).getD false) ⟨s.toArray⟩).length) k3 (by rw[AL];exact AM _) (by rw[AL];exact h3) ?_ ?_ (fun o _=>rfl)
   ·rw[AL]at this;exact this
   ·intro i x hx;rw[AK]at hx;cases hb:(Lib.goFieldsP (fun r=>(F (r:Int)).getD false) ⟨s.toArray⟩)[i]? with
    |none=>rw[hb]at hx;cases hx
    |some b=>
     rw[hb]at hx;cases hx;have hi:=(AE.1 hb).1;have:=congrArg (fun l=>l[i]?) k7;simp only[AX,AK,hb]at this;rw[if_pos (by omega)]at this;simpa using this
   ·intro x hx;obtain⟨b,hb,rfl⟩:=B_.1 hx;have:=ACL _ ⟨s.toArray⟩ b hb;rw[KF]at this;have e:b.data.toList.length=b.size:=rfl;rw[e];exact AZ this h0
theorem A1Z{el:TypeId}(h:Lay Tryz.prog (.agg GM) el):el=300:=by
 have hall:((List.range Tryz.prog.types.size).all fun i=>!(layB Tryz.prog (.agg GM)).1 i||Nat.beq i 300)=true:=by kernel_rfl
 have hlt:el<Tryz.prog.types.size:=A8Y h.inf rfl;have h1:=BR.1 hall el (CP.2 hlt);have h2:(layB Tryz.prog (.agg GM)).1 el=true:=h;rw[h2]at h1;exact A3 h1
set_option maxHeartbeats 1000000 in
set_option maxRecDepth 100000 in
theorem ACO(b:Nat)(w:World)(h0:w.cell? ⟨b,0,none⟩=some (.pointer (some ⟨b,0,none⟩))):
 Calls Tryz.prog 239 #[.pointer (some ⟨b,0,none⟩)] w fun e w'=>e=.returned (.tuple #[])/\w'=w:=by
 have mixed:Tryz.prog.follows .mixedOrders=true:=by kernel_rfl
 have t72:=Tryz.underlying300;have a72:=Tryz.isAgg300;have z72:=Tryz.sizeOf300;have v72:=Tryz.zeroValue300;have u72:=run_underlying Tryz.underlying300;have t70:=Tryz.underlying297;have a70:=Tryz.isAgg297;have z70:=Tryz.sizeOf297;have v70:=Tryz.zeroValue297;have u70:=run_underlying Tryz.underlying297;have t4:=Tryz.underlying4;have a4:=Tryz.isAgg4;have z4:=Tryz.sizeOf4;have v4:=Tryz.zeroValue4;have u4:=run_underlying Tryz.underlying4;obtain⟨j,hj,_⟩:=Option.map_eq_some_iff.1 (show(Tryz.prog.info? 300).map (·.size)=some 2 by kernel_rfl)
 go_enter Tryz.func239,Tryz.ntmps239
 go_wp2
 rw[Lib.run_neq_ptr_same w _ Tryz.underlying297 hj]
 go_wp2
 go_end0
 exact⟨rfl,rfl⟩
set_option maxHeartbeats 1000000 in
set_option maxRecDepth 100000 in
theorem ACP(b:Nat)(w:World)(h0:w.cell? ⟨b,0,none⟩=some (.pointer none))(hsh:w.shape? b=some (300,2))(hfz:w.frozen? ⟨b,0,none⟩=false):
 Calls Tryz.prog 239 #[.pointer (some ⟨b,0,none⟩)] w fun e w'=>e=.returned (.tuple #[])/\w'=w.setCell ⟨b,0,none⟩ (.pointer (some ⟨b,0,none⟩)):=by
 obtain⟨j,hj,hjs⟩:=Option.map_eq_some_iff.1 (show(Tryz.prog.info? 300).map (·.size)=some 2 by kernel_rfl);have mixed:Tryz.prog.follows .mixedOrders=true:=by kernel_rfl
 have t72:=Tryz.underlying300;have a72:=Tryz.isAgg300;have z72:=Tryz.sizeOf300;have v72:=Tryz.zeroValue300;have u72:=run_underlying Tryz.underlying300;have t70:=Tryz.underlying297;have a70:=Tryz.isAgg297;have z70:=Tryz.sizeOf297;have v70:=Tryz.zeroValue297;have u70:=run_underlying Tryz.underlying297;have t4:=Tryz.underlying4;have a4:=Tryz.isAgg4;have z4:=Tryz.sizeOf4;have v4:=Tryz.zeroValue4;have u4:=run_underlying Tryz.underlying4;have t164:=Tryz.underlying380;have a164:=Tryz.isAgg380;have z164:=Tryz.sizeOf380;have v164:=Tryz.zeroValue380;have u164:=run_underlying Tryz.underlying380
 go_enter Tryz.func239,Tryz.ntmps239
 go_wp2
 rw[Lib.run_to_unsafe w ⟨b,0,none⟩ Tryz.underlying297 Tryz.underlying380 hj (by rw[hjs];decide) hsh (Nat.zero_lt_succ 1)];simp only[Result.andThen];rw[Oper.upon_value]
 go_wp2
 rw[run_callFunc_extern Tryz.func280 (by kernel_rfl) (by kernel_rfl) (by kernel_rfl) (e:=Extern.AbiNoEscape.same) (by kernel_rfl)];rw[Lib.run_noEscape];simp only[Result.andThen];rw[Oper.upon_value]
 go_wp2
 rw[Lib.run_from_unsafe w ⟨b,0,none⟩ Tryz.underlying380 Tryz.underlying297 hj hsh (by kernel_rfl)];simp only[Result.andThen];rw[Oper.upon_value]
 go_wp2
 go_end0
 exact⟨rfl,rfl⟩
theorem A1_{w:World}{b:Nat}{cells:Array Value}{p q:Value}{el:TypeId}{fz:Nat×Nat}(hb:w.heap[b]?=some (.cells cells el fz))(hc:cells.toList=[p,q]):
 w.cell? ⟨b,0,none⟩=some p/\w.cell? ⟨b,1,none⟩=some q:=by
 have:cells= #[p,q]:=by apply C8;exact hc
 subst this;exact⟨by simp only[World.cell?,hb];rfl,by simp only[World.cell?,hb];rfl⟩
set_option maxHeartbeats 2000000 in
set_option maxRecDepth 100000 in
theorem ACQ(b g cap:Nat)(l:List UInt8)(w:World)(cur:Array Value)(fz:Nat×Nat)(hb:w.cell? ⟨b,1,none⟩=some (.slice (some ⟨g,0,none⟩) l.length cap))(h0:l≠[])
 (hg:w.heap[g]?=some (.cells cur 5 fz))(hcap:l.length<=cap)(hcs:cur.size=cap)(hmax:l.length<=281474976710656)(hx:∀(j:Nat) x,l[j]?=some x->cur[j]?=some (.int .u8 x.toNat)):
 Calls Tryz.prog 190 #[.pointer (some ⟨b,0,none⟩)] w fun e w'=>e=.returned (.string ⟨l.toArray⟩)/\w'=w.drew.freeze ⟨g,0,none⟩ l.length:=by
 have hl0:l.length≠0:=by simpa using h0
 have c1:w.drew.cell? ⟨b,1,none⟩=some (.slice (some ⟨g,0,none⟩) l.length cap):=hb
 have hSD:(Builtin.unsafeSliceData_ #[298] 347 #[.slice (some ⟨g,0,none⟩) l.length cap]).run Tryz.prog w.drew=.ok (.pointer (some ⟨g,0,none⟩)) w.drew:=
  Lib.run_unsafeSliceData_row _ _ _ _ _ _ (by omega)
 have hUS:(Builtin.unsafeString_ #[347,3] 9 #[.pointer (some ⟨g,0,none⟩),.int .i64 l.length]).run Tryz.prog w.drew=.ok (.string ⟨l.toArray⟩) (w.drew.freeze ⟨g,0,none⟩ l.length):=by
  refine Lib.run_unsafeString_row w.drew 347 3 9 5 Tryz.underlying347 (by kernel_rfl) g cur.size (by have hg':w.drew.heap[g]?=some (.cells cur 5 fz):=hg;simp[World.shape?,hg']) l h0 (by omega) (by omega) ?_;intro j x hj;have hg':w.drew.heap[g]?=some (.cells cur 5 fz):=hg;have ha:(⟨g,0,none⟩:Addr).add j=⟨g,j,none⟩:=by simp[Addr.add];exact fun h=>h.symm
  rw[ha];simp only[World.cell?,hg',hx j x hj];rfl
 clear hx hcs hg hcap hmax h0;have mixed:Tryz.prog.follows .mixedOrders=true:=by kernel_rfl
 have t72:=Tryz.underlying300;have a72:=Tryz.isAgg300;have z72:=Tryz.sizeOf300;have v72:=Tryz.zeroValue300;have u72:=run_underlying Tryz.underlying300;have t70:=Tryz.underlying297;have a70:=Tryz.isAgg297;have z70:=Tryz.sizeOf297;have v70:=Tryz.zeroValue297;have u70:=run_underlying Tryz.underlying297;have t37:=Tryz.underlying298;have a37:=Tryz.isAgg298;have z37:=Tryz.sizeOf298;have v37:=Tryz.zeroValue298;have u37:=run_underlying Tryz.underlying298;have t127:=Tryz.underlying347;have a127:=Tryz.isAgg347;have z127:=Tryz.sizeOf347;have v127:=Tryz.zeroValue347;have u127:=run_underlying Tryz.underlying347;have t3:=Tryz.underlying3;have a3:=Tryz.isAgg3;have z3:=Tryz.sizeOf3;have v3:=Tryz.zeroValue3;have u3:=run_underlying Tryz.underlying3;have t9:=Tryz.underlying9;have a9:=Tryz.isAgg9;have z9:=Tryz.sizeOf9;have v9:=Tryz.zeroValue9;have u9:=run_underlying Tryz.underlying9;have t5:=Tryz.underlying5;have a5:=Tryz.isAgg5;have z5:=Tryz.sizeOf5;have v5:=Tryz.zeroValue5;have u5:=run_underlying Tryz.underlying5
 go_enter Tryz.func190,Tryz.ntmps190
 go_wp2
 go_region_o
 all_goals (go_wp2;go_ret;exact⟨rfl,rfl⟩)
set_option maxHeartbeats 2000000 in
set_option maxRecDepth 100000 in
theorem ACR(b g:Nat)(w:World)(cur:Array Value)(fz:Nat×Nat)(hb:w.cell? ⟨b,1,none⟩=some (.slice (some ⟨g,0,none⟩) 0 0))(hg:w.heap[g]?=some (.cells cur 5 fz)):
 Calls Tryz.prog 190 #[.pointer (some ⟨b,0,none⟩)] w fun e w'=>e=.returned (.string ⟨#[]⟩)/\Below w.heap.size w w':=by
 have hUS:∀(W:World) (q:Option Addr),(Builtin.unsafeString_ #[347,3] 9 #[.pointer q,.int .i64 0]).run Tryz.prog W=.ok (.string .empty) W:=fun W q=>Lib.run_unsafeString_none W _ _ _ q;have hlt:=WJ hb;have c1:w.drew.cell? ⟨b,1,none⟩=some (.slice (some ⟨g,0,none⟩) 0 0):=hb
 have hSD:(Builtin.unsafeSliceData_ #[298] 347 #[.slice (some ⟨g,0,none⟩) 0 0]).run Tryz.prog w.drew=.ok (.pointer (some ⟨w.drew.heap.size,0,none⟩)) (w.drew.alloc (.view ⟨g,0,none⟩ 5)):=
  Lib.run_unsafeSliceData_zero w.drew _ _ 5 Tryz.underlying347 ⟨g,0,none⟩ 0 (5,cur.size) (by have hg':w.drew.heap[g]?=some (.cells cur 5 fz):=hg;simp[World.shape?,hg'])
 have hB:Below w.heap.size w (w.drew.alloc (.view ⟨g,0,none⟩ 5)):=(Below.drew (Below.refl _ w)).alloc (AM _) _;have c2:(w.drew.alloc (.view ⟨g,0,none⟩ 5)).cell? ⟨b,1,none⟩=some (.slice (some ⟨g,0,none⟩) 0 0):=(hB.cell hlt).trans hb;have c3:(w.alloc (.view ⟨g,0,none⟩ 5)).drew.cell? ⟨b,1,none⟩=some (.slice (some ⟨g,0,none⟩) 0 0):=c2;have mixed:Tryz.prog.follows .mixedOrders=true:=by kernel_rfl
 have t72:=Tryz.underlying300;have a72:=Tryz.isAgg300;have z72:=Tryz.sizeOf300;have v72:=Tryz.zeroValue300;have u72:=run_underlying Tryz.underlying300;have t70:=Tryz.underlying297;have a70:=Tryz.isAgg297;have z70:=Tryz.sizeOf297;have v70:=Tryz.zeroValue297;have u70:=run_underlying Tryz.underlying297;have t37:=Tryz.underlying298;have a37:=Tryz.isAgg298;have z37:=Tryz.sizeOf298;have v37:=Tryz.zeroValue298;have u37:=run_underlying Tryz.underlying298;have t127:=Tryz.underlying347;have a127:=Tryz.isAgg347;have z127:=Tryz.sizeOf347;have v127:=Tryz.zeroValue347;have u127:=run_underlying Tryz.underlying347;have t3:=Tryz.underlying3;have a3:=Tryz.isAgg3;have z3:=Tryz.sizeOf3;have v3:=Tryz.zeroValue3;have u3:=run_underlying Tryz.underlying3;have t9:=Tryz.underlying9;have a9:=Tryz.isAgg9;have z9:=Tryz.sizeOf9;have v9:=Tryz.zeroValue9;have u9:=run_underlying Tryz.underlying9;have t5:=Tryz.underlying5;have a5:=Tryz.isAgg5;have z5:=Tryz.sizeOf5;have v5:=Tryz.zeroValue5;have u5:=run_underlying Tryz.underlying5
 go_enter Tryz.func190,Tryz.ntmps190
 go_wp2
 go_region_o
 all_goals (go_wp2;go_ret;exact⟨rfl,hB⟩)
theorem After.only{w w':World}{I:Im}(hm:HU w I){b:Nat}{bs:List Nat}(hb:b∈bs)(hI:∀o,¬I.cell b o)(hO:¬I.obj b)(hh:∀k,k≠b->w'.heap[k]?=w.heap[k]?)(hs:w'.heap.size=w.heap.size)
 (hos:w'.os=w.os)(ht:w'.tape=w.tape)(ho:w'.output=w.output):After (·∈bs) w I w' I:=by
 have hx:Ext w I w' I:=⟨fun k o h=>⟨h,by simp only[World.cell?,hh k (fun e=>hI o (e▸h))]⟩,fun k h=>⟨h,hh k (fun e=>hO (e▸h))⟩⟩;exact⟨hx,fun k _ hk=>hh k (fun e=>hk (e▸hb)),Nat.le_of_eq hs.symm,fun _ _ h=>.inl h,fun _ h=>.inl h,fun k o h=>hs▸hm.1 k o h,fun k h=>hs▸hm.2.1 k h,hos,ht,ho,hm.2.2.ext hx⟩
theorem ACS{w:World}{b o:Nat}{v:Value}{k:Nat}(h:k≠b):(w.setCell ⟨b,o,none⟩ v).heap[k]?=w.heap[k]?:=Below.heap_setCell w ⟨b,o,none⟩ v k h
def ACT:FSpec:=⟨[.bld 5 false],[],ZU,false⟩
theorem A1a:FF Go.Proofs.Tryz.prog 239/\FunOK Go.Proofs.Tryz.prog 239 ACT:=by
 refine⟨JF Tryz.func239 (by kernel_rfl) (by kernel_rfl),fun w I v args bs hm hsh hnd r hr=>?_⟩;cases hr;obtain⟨v1,rfl,b,cells,el,p,q,bs',e1,rfl,h1,hlay,h2,hp,h4,h5,h6⟩:=hsh;obtain rfl:=A8.1 e1;obtain rfl:=A1Z hlay;obtain⟨c0,c1⟩:=A1_ h1 h2;have hnd':=B9.1 hnd;rcases hp with rfl|rfl
 ·have hsh:w.shape? b=some (300,2):=by
   have:cells.size=2:=by rw[<-BY,h2];rfl
   simp[World.shape?,h1,this]
  refine(ACP b w c0 hsh (by simp[World.frozen?,h1])).mono fun e w' ⟨he,hw⟩=>?_;have hh:∀k,k≠b->w'.heap[k]?=w.heap[k]?:=fun k hk=>by rw[hw];exact ACS hk
  have hs:w'.heap.size=w.heap.size:=by rw[hw];simp[World.setCell]
  have hbk:w'.heap[b]?=some (.cells #[.pointer (some ⟨b,0,none⟩),q] 300 (0,0)):=by
   have hc:cells= #[.pointer none,q]:=by apply C8;exact h2
   subst hc;rw[hw];simp only[World.setCell,Array.getElem?_modify,h1];simp
  refine⟨_,[],I,b::bs',he,rfl,rfl,After.only hm AN h4 h5 hh hs (by rw[hw];rfl) (by rw[hw];rfl) (by rw[hw];rfl),?_,hnd,fun b hb=>.inl hb,fun h=>by cases h⟩;refine⟨_,rfl,b,_,300,_,q,bs',rfl,rfl,hbk,hlay,rfl,.inr rfl,h4,h5,?_⟩;rcases h6 with h6|⟨g,cap,gc,k1,k2,k3,⟨fz,k4,k4'⟩,k5,k6,k7,k8⟩
  ·exact .inl h6
  ·have hgb:g≠b:=by rw[k2]at hnd';intro e;exact hnd'.1 (by rw[e];exact List.mem_singleton_self _)
   refine .inr ⟨g,cap,gc,k1,k2,k3,⟨fz,(hh g hgb).trans k4,k4'⟩,k5,?_,k7,k8⟩;have hx:Ext w I w' I:=(After.only hm (bs:=b::bs') AN h4 h5 hh hs (by rw[hw];rfl) (by rw[hw];rfl) (by rw[hw];rfl)).ext;exact fun i x hx'=>(k6 i x hx').ext hx
 ·refine(ACO b w c0).mono fun e w' ⟨he,hw⟩=>?_;subst hw;refine⟨_,[],I,b::bs',he,rfl,rfl,After.refl hm,?_,hnd,fun b hb=>.inl hb,fun h=>by cases h⟩;exact⟨_,rfl,b,cells,300,_,q,bs',rfl,rfl,h1,hlay,h2,.inr rfl,h4,h5,h6⟩
theorem ACU{w:World}{b n:Nat}{k:Nat}(h:k≠b):(w.freeze ⟨b,0,none⟩ n).heap[k]?=w.heap[k]?:=by
 unfold World.freeze;split
 ·rfl
 ·simp only[Array.getElem?_modify];rw[if_neg (fun e=>h e.symm)]
theorem ACV{w:World}{a:Addr}{n:Nat}:(w.freeze a n).heap.size=w.heap.size:=by
 unfold World.freeze;split
 ·rfl
 ·simp
theorem ACW{w:World}{a:Addr}{n:Nat}:(w.freeze a n).os=w.os/\(w.freeze a n).tape=w.tape/\(w.freeze a n).output=w.output:=by
 unfold World.freeze;split<;>exact⟨rfl,rfl,rfl⟩
theorem ACX{xs:List Int}(h:∀x∈xs,GI .u8 x):xs=GB (HJ xs):=by
 unfold GB HJ;rw[List.map_map];conv=>lhs;rw[<-List.map_id xs]
 refine List.map_congr_left fun x hx=>?_;have h1:0<=x/\x<=255:=h x hx;show x=((UInt8.ofNat x.toNat).toNat:Int);rw[UInt8.toNat_ofNat'];omega
def ACY:FSpec:=⟨[.bld 5 true],[.val .str],N7,false⟩
theorem PT:FF Go.Proofs.Tryz.prog 190/\FunOK Go.Proofs.Tryz.prog 190 ACY:=by
 refine⟨JF Tryz.func190 (by kernel_rfl) (by kernel_rfl),fun w I v args bs hm hsh hnd r hr=>?_⟩;cases hr;obtain⟨v1,rfl,b,cells,el,p,q,bs',e1,rfl,h1,hlay,h2,hp,h4,h5,h6⟩:=hsh;obtain rfl:=A8.1 e1;obtain rfl:=A1Z hlay;obtain⟨c0,c1⟩:=A1_ h1 h2;have hnd':=B9.1 hnd;have hcells:cells= #[p,q]:=by apply C8;exact h2
 subst hcells
 have empty:∀(w':World) (e:Ending),(show List Int from v)=[]->e=.returned (.string ⟨#[]⟩)->Below w.heap.size w w'->∃rv vs I' bs'',e=.returned rv/\vs.length=1/\JP vs rv/\After (·∈b::bs') w I w' I'/\
  ShL Tryz.prog w' I' [.val .str] (HJ v) (vs++[]) bs''/\bs''.Nodup/\(∀k∈bs'',k∈b::bs'\/w.heap.size<=k)/\(false=true->w.drawn<=w'.drawn):=by
  intro w' e hv he hb;refine⟨_,[_],SM I OE,[],he,rfl,rfl,(After.below hm hb PR).mono (fun k hk=>by cases hk),?_,.nil,(fun k hk=>by cases hk),fun h=>by cases h⟩;have:HJ v=[]:=by have hv:v=([]:List Int):=hv;rw[hv];rfl
  rw[this];exact KO (M2 (x:=[]) (by decide))
 rcases h6 with⟨rfl,k1,k2⟩|⟨g,cap,gc,rfl,k2,k3,⟨fz,k4,k4'⟩,k5,k6,k7,k8⟩
 ·exact(Any.Builder_String_nil Tryz.lays169 Tryz.Builder_Extra_169 w.heap.size b p w h1).mono fun e w' ⟨he,hb⟩=>empty w' e k1 he hb
 ·obtain⟨xs,hxs⟩:∃xs:List Int,xs=v:=⟨v,rfl⟩;subst hxs;have k3:HE xs.length cap:=k3;have k5:gc.size=cap:=by rw[k5];exact DF _
  by_cases h0:xs=[]
  ·subst h0;by_cases hc:cap=0
   ·subst hc;exact(ACR b g w gc fz c1 k4).mono fun e w' ⟨he,hb⟩=>empty w' e rfl he hb
   ·exact(Any.Builder_String_room Tryz.lays169 Tryz.Builder_Extra_169 w.heap.size b g cap p w hc h1).mono fun e w' ⟨he,hb⟩=>empty w' e rfl he hb
  ·have hrow:∀(j:Nat) x,xs[j]?=some x->gc[j]?=some (.int .u8 x)/\GI .u8 x:=by
    intro j x hx;obtain⟨e1,e2⟩:=k6 j x hx;refine⟨?_,e2⟩;have e1:((gc.toList.drop (j*1)).take 1)=[.int .u8 x]:=e1;have:=congrArg (fun l=>l[0]?) e1;simpa using this
   have hk:∀x∈xs,GI .u8 x:=fun x hx=>let ⟨j,hj⟩:=D5 hx;(hrow j x hj).2
   have hb:xs=GB (HJ xs):=ACX hk;have hl:(HJ xs).length=xs.length:=by simp[HJ]
   refine(ACQ b g cap (HJ xs) w gc fz (by rw[hl];exact c1) (fun e=>h0 (by rw[hb,e];rfl)) k4 (by rw[hl];exact k3.1) k5 (by rw[hl];exact k3.2) (fun j x hj=>?_)).mono fun e w' ⟨he,hw⟩=>?_
   ·have:xs[j]?=some (x.toNat:Int):=by rw[hb];simp[GB,hj]
    exact(hrow j _ this).1
   ·obtain⟨o1,o2,o3⟩:=ACW (w:=w.drew) (a:=⟨g,0,none⟩) (n:=(HJ xs).length);refine⟨_,[_],I,[],he,rfl,rfl,After.only hm (b:=g) (by rw[k2];simp) k7 k8 (fun k hk=>by rw[hw];exact ACU hk) (by rw[hw];exact ACV) (by rw[hw];exact o1) (by rw[hw];exact o2) (by rw[hw];exact o3),?_,.nil,(fun k hk=>by cases hk),fun h=>by cases h⟩;exact KO (M2 (by rw[hl];exact k3.2))
end Go.Ev.Pv
namespace Go.Proofs
open Tryz
open Go.Shelf
def Tryz.sort257_ren:Go.Shelf.Ren:=⟨fun|6=>257|15=>111|14=>290|28=>144|29=>145|20=>316|21=>317|22=>318|23=>319|24=>320|25=>321|26=>322|27=>323|46=>341|47=>193|48=>194|49=>342|50=>343|57=>353|n=>n,fun|22=>203|24=>279|25=>361|3=>3|39=>185|0=>0|53=>251|55=>253|4=>4|46=>244|45=>243|50=>163|5=>5|9=>9|66=>308|70=>312|76=>348|77=>349|n=>n,fun|n=>n⟩
theorem Tryz.sort257:Go.Proofs.SlLaysF0.n6 Tryz.prog Tryz.sort257_ren:={
 mixed:=by kernel_rfl
 f6:=⟨Tryz.f257.name,by decide,fk func257⟩
 f14:=⟨Tryz.f290.name,by decide,fk func290⟩
 f15:=fk func111
 f20:=⟨Tryz.f316.name,by decide,fk func316⟩
 f21:=⟨Tryz.f317.name,by decide,fk func317⟩
 f22:=⟨Tryz.f318.name,by decide,fk func318⟩
 f23:=⟨Tryz.f319.name,by decide,fk func319⟩
 f24:=⟨Tryz.f320.name,by decide,fk func320⟩
 f25:=⟨Tryz.f321.name,by decide,fk func321⟩
 f26:=⟨Tryz.f322.name,by decide,fk func322⟩
 f27:=⟨Tryz.f323.name,by decide,fk func323⟩
 f28:=fk func144
 f29:=fk func145
 f46:=⟨Tryz.f341.name,by decide,fk func341⟩
 f47:=fk func193
 f48:=fk func194
 f49:=⟨Tryz.f342.name,by decide,fk func342⟩
 f50:=⟨Tryz.f343.name,by decide,fk func343⟩
 f57:=⟨Tryz.f353.name,by decide,fk func353⟩
 t0:=underlying0
 a0:=isAgg0
 z0:=sizeOf0
 v0:=zeroValue0
 t3:=underlying3
 a3:=isAgg3
 z3:=sizeOf3
 v3:=zeroValue3
 t4:=underlying4
 a4:=isAgg4
 z4:=sizeOf4
 v4:=zeroValue4
 t5:=underlying5
 a5:=isAgg5
 z5:=sizeOf5
 v5:=zeroValue5
 t9:=underlying9
 a9:=isAgg9
 z9:=sizeOf9
 v9:=zeroValue9
 t22:=underlying203
 a22:=isAgg203
 z22:=sizeOf203
 v22:=zeroValue203
 t25:=underlying361
 a25:=isAgg361
 z25:=sizeOf361
 v25:=zeroValue361
 t39:=underlying185
 a39:=isAgg185
 z39:=sizeOf185
 v39:=zeroValue185
 t45:=underlying243
 a45:=isAgg243
 z45:=sizeOf243
 v45:=zeroValue243
 t46:=underlying244
 a46:=isAgg244
 z46:=sizeOf244
 v46:=zeroValue244
 t50:=underlying163
 a50:=isAgg163
 z50:=sizeOf163
 v50:=zeroValue163
 t53:=underlying251
 a53:=isAgg251
 z53:=sizeOf251
 v53:=zeroValue251
 t55:=underlying253
 a55:=isAgg253
 z55:=sizeOf253
 v55:=zeroValue253
 t66:=underlying308
 a66:=isAgg308
 z66:=sizeOf308
 v66:=zeroValue308
 t70:=underlying312
 a70:=isAgg312
 z70:=sizeOf312
 v70:=zeroValue312
 t76:=underlying348
 a76:=isAgg348
 z76:=sizeOf348
 v76:=zeroValue348
 t77:=underlying349
 a77:=isAgg349
 z77:=sizeOf349
 v77:=zeroValue349}
end Go.Proofs
namespace Go.Ev.Pv
open Go.Proofs Go.Shelf
noncomputable def ACZ:FSpec:=⟨[.io 279 (.agg (.prod (.agg (.prod (.int .i64) (.prod .str (.prod .bool .str)))) (.agg (.prod (.int .i64) (.prod .str (.prod .bool .str)))))),.hof true (.prod (.agg (.prod (.agg (.prod (.int .i64) (.prod .str (.prod .bool .str)))) (.agg (.prod (.int .i64) (.prod .str (.prod .bool .str)))))) (.agg (.prod (.agg (.prod (.int .i64) (.prod .str (.prod .bool .str)))) (.agg (.prod (.int .i64) (.prod .str (.prod .bool .str))))))) (.int .i64)],[],lE,true⟩
theorem AC_:FF Go.Proofs.Tryz.prog 257/\FunOK Go.Proofs.Tryz.prog 257 ACZ:=
 ⟨JF Tryz.func257 (by kernel_rfl) (by kernel_rfl),ABo Tryz.sort257 rfl Tryz.isAgg279 Tryz.sizeOf279 (by decide)⟩
end Go.Ev.Pv
