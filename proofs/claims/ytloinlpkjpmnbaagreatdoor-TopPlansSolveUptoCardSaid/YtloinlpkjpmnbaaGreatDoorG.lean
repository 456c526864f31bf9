/-
  The contracts of Go's library that the law reaches, in the evaluator's terms.
-/
import Derived.Test.YtloinlpkjpmnbaaGreatDoorE4
import Derived.Below
import Derived.Test.YtloinlpkjpmnbaaGreatDoorD
import Derived.Shelf.SlSortCmp.WholeK
import Derived.Shelf.SlSortCmp.NoneTotal
import Derived.Lib.QuietBelow
import Derived.Shelf.Strings.Builder1
import Derived.Shelf.Strings.Builder2
import Derived.Shelf.Strings.OnBuilder
import Derived.Shelf.Small.Utf8
import Derived.Shelf.Small.Bits
import Derived.Shelf.Small.Strs
import Derived.Shelf.Small.Wraps
import Derived.Shelf.Strings.BuilderF
import Derived.Shelf.Strings.BuilderK
import Derived.Shelf.Strings.BuilderRune
import Derived.Shelf.Utf8.RuneCount
import Derived.Shelf.Strconv.Atoi
import Derived.Shelf.Strconv.Itoa0
import Derived.Shelf.Strconv.Itoa1
import Derived.Shelf.LaysM
import Derived.Shelf.Strconv.Itoa2
import Derived.Shelf.Strconv.Itoa3
import Derived.Shelf.Strconv.AtoiErrFast
import Derived.Shelf.Strconv.ParseIntEmpty
import Derived.Shelf.Strconv.AtoiFail
import Derived.Shelf.Strconv.Clone
import Derived.Shelf.Strconv.SyntaxError
import Derived.Shelf.LaysC
import Derived.Shelf.Strconv.ToError
import Derived.Shelf.Strconv.Lower
import Derived.Shelf.Strconv.ParseUint10
import Derived.Shelf.Strconv.ParseUint10Empty
import Derived.Shelf.Strconv.ParseUint10Any
import Derived.Shelf.Strconv.ParseInt10
import Derived.Shelf.Strconv.AtoiLong
import Derived.Shelf.Strconv.AtoiInnerAll
import Derived.Shelf.Strconv.RangeError
import Derived.Shelf.Strconv.ToErrorRange
import Derived.Shelf.Strconv.AtoiAll
import Derived.Shelf.Strings.Search1
import Derived.Shelf.Strings.Search2
import Derived.Shelf.Strings.Search3
import Derived.Shelf.Strings.Cut
import Derived.Shelf.Strings.Count
import Derived.Shelf.Strings.Shaped
import Derived.Shelf.Sort.Plain
import Derived.Shelf.Strings.LastIndex
import Derived.Shelf.Strings.Prefix
import Derived.Shelf.Strings.Split
import Derived.Shelf.Strings.SplitShaped
import Derived.Shelf.Unicode.Latin
import Derived.Shelf.Unicode.Decode
import Derived.Shelf.Strings.RuneCount
import Derived.Shelf.Strings.Explode
import Derived.Shelf.Bits.Mul64
import Derived.Shelf.Strings.Repeat
import Derived.Shelf.Unicode.DecodeSlow
import Derived.Shelf.Unicode.DecodeAny
import Derived.Shelf.Strings.FieldsFuncAny
import Derived.Shelf.Unicode.CaseLookup
import Derived.Shelf.Unicode.CaseConvert
import Derived.Shelf.Unicode.CaseTo
import Derived.Shelf.Unicode.CaseLaid
import Derived.Shelf.Strings.MapAny
import Derived.Shelf.Strings.CaseAny
import Derived.Shelf.Strings.FieldsFuncGrows
import Derived.Shelf.Slices.Turned
import Derived.Ground.Names2Prog
import Derived.Shelf.Slices.ReverseS
import Derived.Shelf.Slices.Clone
import Derived.Shelf.Slices.CompactS
import Derived.Shelf.Slices.SearchI
import Derived.Shelf.Slices.Cells
import Derived.Shelf.Slices.In.SortNone
import Derived.Ground.SlgnProg
import Derived.Shelf.SlicesE.Reverse
import Derived.Shelf.SlicesE.Compact
import Derived.Shelf.SlicesE.Clone
import Derived.Test.YtloinlpkjpmnbaaGreatDoorProg
import Derived.Lib.AppendIntMem
import Derived.Lib.SliceRun
import Derived.Shelf.SlGeneric
import Derived.Shelf.SlLaysF0
import Derived.Ground.SlsfProg
set_option linter.unusedVariables false
set_option linter.unusedSimpArgs false
set_option linter.unusedSectionVars false
set_option maxRecDepth 100000
namespace Go.Ev
variable{v:Value}{a:Ty}{args:List Value}
variable [Pins]
open Go.RowKit
def VO(I:Im)(X:Nat->Nat->Prop):Im:=⟨λb o=>I.cell b o\/X b o,I.obj⟩
theorem After.below{w w':World}{I:Im}(d:HY w I)(a:Below w.heap.size w w'){X:Nat->Nat->Prop}(hx:∀b o,X b o->w.heap.size<=b/\b<w'.heap.size):
 After (·∈([]:List Nat)) w I w' (VO I X):=by
 have i:Ext w I w' (VO I X):=⟨λb o h=>⟨.inl h,by simp only[World.cell?,a.block b (d.1 b o h)]⟩,λb h=>⟨h,a.block b (d.2.1 b h)⟩⟩
 exact ⟨i,λb e _=>a.block b e,a.size,λb o h=>h.imp id λh=>.inl (hx b o h).1,λb h=>.inl h,
  λb o h=>h.elim (λh=>BC (d.1 b o h) a.size) λh=>(hx b o h).2,λb h=>BC (d.2.1 b h) a.size,a.os,a.tape,a.output,d.2.2.ext i⟩
theorem FunOK.given{P:Program}{f:Nat}{sp:FSpec}(h:∀(w:World) (I:Im) (v:TupR sp.ps) (args:List Value) (bs:List Nat),HY w I->ShL P w I sp.ps v args bs->∀r,sp.F v=some r->bs=[]/\
 Calls P f args.toArray w λe a=>∃j d X,e=.returned j/\d.length=sp.rs.length/\KN d j/\Below w.heap.size w a/\(sp.dr=true->w.drawn<=a.drawn)/\(∀b o,X b o->w.heap.size<=b/\b<a.heap.size)/\
  ShL P a (VO I X) (sp.rs++sp.ps.filter F3) r (d++GD sp.ps args) []):FunOK P f sp:=by
 intro w I v args bs l i q r s;obtain⟨rfl,k⟩:=h w I v args bs l i r s;refine k.mono λe a ⟨j,d,X,t,x,y,z,C,A,B⟩=>?_;grind[VO,After.below]
def QP:Nat->Nat->Prop:=λ_ _=>False
theorem SP{w w':World}:∀b o,QP b o->w.heap.size<=b/\b<w'.heap.size:=λ_ _ h=>h.elim
section
variable{P:Program}{w:World}{I:Im}
theorem JV{x:DX}(h:VRel w I .str x v):v=.string ⟨x.toArray⟩/\x.length<=281474976710656:=by
 obtain⟨c,a,b,d⟩:=h;have a:c=[v]:=a;grind
theorem kV{k:IntKind}{n:Int}(h:VRel w I (.int k) n v):v=.int k n/\GK k n:=by
 obtain⟨c,a,b,d⟩:=h;have a:c=[v]:=a;grind
theorem AGw{b:Bool}(h:VRel w I .bool b v):v=.bool b:=by
 obtain⟨c,a,d⟩:=h;have a:c=[v]:=a;have d:c=[.bool b]:=d;grind
theorem NK{x:DX}(h:x.length<=281474976710656):VRel w I .str x (.string ⟨x.toArray⟩):=⟨_,rfl,rfl,h⟩
theorem kW{k:IntKind}{n:Int}(h:GK k n):VRel w I (.int k) n (.int k n):=⟨_,rfl,rfl,h⟩
theorem yN{b:Bool}:VRel w I .bool b (.bool b):=⟨_,rfl,rfl⟩
theorem yO{x:a.T}{bs:List Nat}(h:ShL P w I [.val a] x args bs):bs=[]/\∃v,args=[v]/\VRel w I a x v:=by
 obtain⟨v,rfl,b,rfl⟩:=h;grind
theorem P7{b:Ty}{x:a.T×b.T}{bs:List Nat}(h:ShL P w I [.val a,.val b] x args bs):bs=[]/\∃v u,args=[v,u]/\VRel w I a x.1 v/\VRel w I b x.2 u:=by
 obtain⟨v,k,d,e,rfl,rfl,⟨i,rfl⟩,u,rfl,j,rfl⟩:=h;grind
theorem LQ{x:a.T}(h:VRel w I a x v):ShL P w I [.val a] x [v] []:=⟨v,rfl,h,rfl⟩
theorem AGx{b:Ty}{x:a.T×b.T}{u:Value}(h:VRel w I a x.1 v)(k:VRel w I b x.2 u):ShL P w I [.val a,.val b] x [v,u] []:=
 ⟨v,[u],[],[],rfl,rfl,⟨h,rfl⟩,u,rfl,k,rfl⟩
theorem AGy{b c:Ty}{x:a.T×b.T×c.T}{u t:Value}(h:VRel w I a x.1 v)(k:VRel w I b x.2.1 u)(m:VRel w I c x.2.2 t):ShL P w I [.val a,.val b,.val c] x [v,u,t] []:=
 ⟨v,[u,t],[],[],rfl,rfl,⟨h,rfl⟩,u,[t],[],[],rfl,rfl,⟨k,rfl⟩,t,rfl,m,rfl⟩
end
theorem FunOK.flat1{P:Program}{f:Nat}{sp:FSpec}{t:Ty}(d:sp.rs=[.val t])(y:sp.ps.filter F3=[])(o:∀args,GD sp.ps args=[])
 (h:∀ (w:World) (I:Im) (v:TupR sp.ps) (args:List Value) (bs:List Nat),HY w I->ShL P w I sp.ps v args bs->∀ r,sp.F v=some r->bs=[] /\
  ∃a,(∀b I',ShL P b I' (sp.rs++sp.ps.filter F3) r [a] [])/\Calls P f args.toArray w λe b=>e=.returned a/\Below w.heap.size w b/\(sp.dr=true->w.drawn<=b.drawn)):FunOK P f sp:=by
 refine FunOK.given λw I v args bs x i r z=>?_;obtain⟨j,a,A,k⟩:=h w I v args bs x i r z;refine⟨j,k.mono λe b ⟨s,l,q⟩=>⟨a,[a],QP,s,by rw[d];rfl,rfl,l,q,SP,?_⟩⟩;grind
end Go.Ev
namespace Go.Ev.Pv
variable{α:Type}{cs:Array Value}{el:TypeId}{fz:Nat×Nat}{os:Array Go.Obj}
variable [Pins]
open Go.Proofs Go.RowKit Go.Sort Go.Shelf
theorem AGz{P:Program}{g:Nat}(h:FI P g):∀a w,(callFunc g a).run P w=.ok (.enter g a) w:=by
 obtain⟨fn,c,d,e,i⟩:=h;intro a w;have b:fn.name≠"runtime.NumGoroutine" :=by simpa using e
 simp[callFunc,d,b,i]
theorem A4s [Inhabited α](enc:α->Value)(w:World)(b off:Nat)(d:Array α)(k:Nat)(h:k≠b):(putRow enc w b off d).heap[k]?=w.heap[k]?:=by
 simp only[putRow,mapBlock,Array.getElem?_modify];rw[if_neg (λe=>h e.symm)]
theorem A4t [Inhabited α](enc:α→Value)(w:World)(b off:Nat)(d:Array α)(h:w.heap[b]?=some (.cells cs el fz)):
 (putRow enc w b off d).heap[b]?=some (.cells (putCells enc off d cs) el fz):=by
 simp only[putRow,mapBlock,Array.getElem?_modify,h];simp[onCells]
theorem kX(w:World)(os:Array Go.Obj)(k:Nat)(h:k<w.heap.size):(grow w os).heap[k]?=w.heap[k]?:=by
 simp only[grow];rw[Array.getElem?_append_left h]
section
variable{P:Program}{w:World}{I:Im}
theorem A4u [Inhabited α]{enc:α->List Value}{k b:Nat}{n:Nat}{D:Array α}(d:w.heap[b]?=some (.cells cs el fz)):
 (sortWorldK enc k w b 0 n D os).heap[b]?=some (.cells (putCells id 0 (flatK enc k D) cs) el fz)/\(∀j,j≠b->j<w.heap.size->(sortWorldK enc k w b 0 n D os).heap[j]?=w.heap[j]?)/\
 w.heap.size<=(sortWorldK enc k w b 0 n D os).heap.size/\(sortWorldK enc k w b 0 n D os).drawn=w.drawn+n:=by
 have a:b<w.heap.size:=(BO.1 d).1;unfold sortWorldK putRowK;refine⟨?_,λj e h=>?_,?_,rfl⟩
 .rw[kX _ _ _ (by simpa using a)];exact A4t id _ b 0 _ d
 .rw[kX _ _ _ (by simpa using h)];exact A4s id _ b 0 _ j e
 .simp
theorem A4v [Inhabited α]{enc:α->List Value}{k b:Nat}{n:Nat}{D:Array α}(s:w.heap[b]?=some (.cells cs el fz))
 (a:HY w I)(q:∀o,¬I.cell b o)(r:¬I.obj b):Ext w I (sortWorldK enc k w b 0 n D os) I/\HY (sortWorldK enc k w b 0 n D os) I:=by
 obtain⟨t,d,i,v⟩:=A4u (enc:=enc) (k:=k) (n:=n) (D:=D) (os:=os) s;have l:Ext w I (sortWorldK enc k w b 0 n D os) I:=⟨λj o h=>⟨h,by simp only[World.cell?,d j (λe=>q o (e▸h)) (a.1 j o h)]⟩,λj h=>⟨h,d j (λe=>r (e▸h)) (a.2.1 j h)⟩⟩;exact⟨l,λj o h=>BC (a.1 j o h) i,λj h=>BC (a.2.1 j h) i,a.2.2.ext l⟩
theorem yP{ρ:Ren}{f el:Nat}{p:Ty}(L:SlLaysF0.n6 P ρ)(hf:ρ.f 6=f)(aE:∀w,(isAgg (ρ.t 24)).run P w=.ok true w)(zE:∀w,(Go.sizeOf (ρ.t 24)).run P w=.ok p.sz w)(hp:0<p.sz):
 FunOK P f ⟨[.io el (.agg p),.hof true (.prod (.agg p) (.agg p)) (.int .i64)],[],λv=>OA v.1 v.2,true⟩:=by
 subst hf;intro w I v a7 bs hm z6 y2 r E;obtain⟨v1,vs,b1,b2,rfl,rfl,h1,v2,rfl,rfl,g,lb,a0,h6,hof⟩:=z6;obtain rfl:=AB.1 a0;obtain⟨l,F⟩:List p.T×(p.T×p.T->Option Int):=v;have E:OA l F=some r:=E
 have M:∀(a:Option Addr) (t:Nat),v1=.slice a 0 t->l=[]->
  Calls P (ρ.f 6) #[v1,.func (.func g) #[] lb] w λe w'=>∃rv vs I' U,e=.returned rv/\vs.length=0/\KN vs rv/\After (·∈b1++[]) w I w' I'/\
   ShL P w' I' [.io el (.agg p)] r (vs++[v1]) U/\U.Nodup/\(∀b∈U,b∈b1++[]\/w.heap.size<=b)/\(true=true->w.drawn<=w'.drawn):=by
  intro a t hv a5;subst a5
  have E:r=([]:List p.T):=by
   have:OA ([]:List p.T) F=some []:=rfl;rw[this]at E;cases E;rfl
  subst hv;refine(AnyF.slices_SortFunc_none L a t _ w).mono λe w' ⟨he,Q⟩=>?_;subst Q;rw[CG]at y2 ⊢;refine⟨_,[],I,b1,he,rfl,rfl,After.refl hm,⟨_,rfl,?_⟩,y2,λb R=>.inl R,λ_=>AH _⟩;rw[E];exact h1
 rcases h1 with⟨X,e2,rfl⟩|⟨b,t,o,X,rfl,hl,⟨fz,R,h7⟩,O,y5,hI,_,hO⟩
 .exact M none 0 (AB.1 X) e2
 .have X:v1=.slice (some ⟨b,0,none⟩) l.length t:=AB.1 X;by_cases C:0<l.length
  .subst X;unfold OA at E;rw[dif_pos C]at E;obtain⟨⟨z2,z3,z4,z5⟩,E⟩:=O7 E;have E:(KQ l F C).toList.map l.get=r:=A2 E
   letI:Inhabited (Fin l.length):=⟨⟨0,C⟩⟩
   let k:=p.sz
   have O:o.size=t*k:=O;have a8:l.length<=t:=hl.1
   have D:∀i,i<l.length->i*k+k<=o.size:=by
    intro i hi;have:(i+1)*k<=t*k:=AZ k oa;rw[O];rw[CV]at this;omega
   let s:Fin l.length->List Value:=λi=>(o.toList.drop (i.val*k)).take k
   have G:∀i:Fin l.length,Rel w I (.agg p) (l.get i) (s i):=λi=>y5 i.val (l.get i) (A1 i.isLt)
   have hk:∀x,(s x).length=k:=by
    intro x;have:=D x.val x.isLt;simp only[s,AY,BU,BF];omega
   have y3:∀x,∀v∈s x,v.oneCell'=true:=λx=>(G x).oneCell
   have h8:∀(i:Fin l.length) (c:Nat),c<k->(s i)[c]! =o[i.val*k+c]!:=by
    intro i c N;have h2:=D i.val i.isLt;have V:i.val*k+c<o.size:=oa
    rw[getElem!_pos (s i) c (by rw[hk];exact N),getElem!_pos o _ V];simp[s]
   have Z:SWO (ltOf (O9 l F)):=⟨λx=>z3 x,λx y z=>z4 x y z,λx y z=>z5 x y z⟩
   have h4:CmpLays P g lb s k (O9 l F) b 0 l.length w:=by
    intro m os dk _ x y;obtain⟨Y,z1⟩:=A4v (enc:=s) (k:=k) (n:=m) (D:=dk) (os:=os) R hm (hI rfl) hO;obtain⟨c,N⟩:=Option.isSome_iff_exists.1 (z2 x y)
    have:=hof _ I Y z1 (l.get x,l.get y) [.agg (s x).toArray,.agg (s y).toArray]
     ⟨_,_,rfl,⟨s x,rfl,(G x).ext Y⟩,_,rfl,s y,rfl,(G y).ext Y⟩ c N
    refine this.mono λe y6 ⟨rv,I'',q1,q2,⟨c',q3,q4,_⟩,q5⟩=>?_;have q3:c'=[rv]:=q3;rw[q3]at q4;have q4:rv=.int .i64 c:=AB.1 q4;refine⟨?_,?_⟩
    .rw[q1,q4];unfold O9;rw[N];rfl
    .obtain⟨⟨d,a6⟩,Q⟩:=regrown_of_below (w:=sortWorldK s k w b 0 m dk os) (w':=y6) ⟨q2.os,q2.tape,q2.output,q2.size,λj B=>q2.heap j B λh=>h⟩;have hd:=q5 rfl;refine⟨d-(sortWorldK s k w b 0 m dk os).drawn,a6,?_⟩;have a9:y6.drawn=d:=by rw[Q];rfl
     rw[Q];simp only[grow,redrawn,World.drewN]
     congr 1
     omega
   have A:(Array.ofFn (id:Fin l.length->Fin l.length)).size=l.length:=oe
   have y8:∀(j:Nat) (B:j<l.length),(Array.ofFn (id:Fin l.length->Fin l.length))[j]! =⟨j,B⟩:=by
    intro j B;rw[getElem!_pos _ j (by simpa using B)];simp
   have y9:∀j,j<l.length*k->j / k<l.length/\j % k<k/\j / k*k+j % k=j:=λj B=>
    ⟨(Nat.div_lt_iff_lt_mul hp).2 B,Nat.mod_lt _ hp,Nat.div_add_mod' j k⟩
   have hH:HoldsK s k w b 0 (Array.ofFn (id:Fin l.length->Fin l.length)):=by
    intro j B;rw[size_flatK,A]at B;obtain⟨d1,d2,d3⟩:=y9 j B;rw[get_flatK _ _ _ _ (by rw[A];exact B),y8 _ d1,h8 _ _ d2,d3]
    have x0:j<o.size:=by
     have:=D _ d1;have:j<j / k*k+k:=oa
     omega
    refine⟨?_,?_⟩
    .simp only[World.cell?,R,C4,id];rw[getElem!_pos o j x0];simp[x0]
    .simp only[World.frozen?,R,C4];rcases h7 with h|h
     .simp;omega
     .simp;omega
   have h3:b<w.heap.size:=(BO.1 R).1;have z9:(Array.ofFn (id:Fin l.length->Fin l.length)).size<4611686018427387904:=by rw[A];have:l.length<=281474976710656:=hl.2;omega
   have K:=AnyQ.slices_SortFunc_eq L k aE zE s hk y3 (O9 l F) Z g lb b 0 t (Array.ofFn id) w (AGz h6) (by rw[A];exact h4) hH h3 z9;have H:=pdq_sorts (ltOf (O9 l F)) Z (Array.ofFn (id:Fin l.length->Fin l.length)) 0 l.length (Lib.bitLen l.length) true true (BJ _) (by rw[A];exact AH _) (.inl rfl);rw[A]at K;have hD:pdq (ltOf (O9 l F)) (Array.ofFn (id:Fin l.length->Fin l.length)) 0 l.length (Lib.bitLen l.length) true true=KQ l F C:=(A3H l F C).symm;rw[hD]at K H;have J:(KQ l F C).size=l.length:=by have:=H.1.1;rw[A]at this;exact this
   refine K.mono λe w' ⟨he,n,os,Q⟩=>?_;obtain⟨a1,a2,a3,a4⟩:=A4u (enc:=s) (k:=k) (n:=n) (D:=KQ l F C) (os:=os) R;obtain⟨x1,x2⟩:=A4v (enc:=s) (k:=k) (n:=n) (D:=KQ l F C) (os:=os) R hm (hI rfl) hO;rw[<-Q]at a1 a2 a3 a4 x1 x2
   have T:(show List p.T from r).length=l.length:=by
    have:((KQ l F C).toList.map l.get).length=l.length:=by rw[AN,BF,J]
    rw[E]at this;exact this
   have y4:(putCells id 0 (flatK s k (KQ l F C)) o).size=o.size:=by simp[putCells]
   refine⟨_,[],I,[b],he,rfl,rfl,⟨x1,λj B hn=>a2 j (λe=>hn (by rw[e];simp)) B,a3,λ_ _ h=>.inl h,λ_ h=>.inl h,x2.1,x2.2.1,by rw[Q];rfl,by rw[Q];rfl,by rw[Q];rfl,x2.2.2⟩,?_,oe,λj B=>.inl (by simpa using B),λ_=>by rw[a4];omega⟩;refine⟨_,rfl,.inr ⟨b,t,_,?_,rfl,?_,⟨fz,a1,by rw[y4];exact h7⟩,by rw[y4];exact O,?_,hI,(λh=>ol),hO⟩⟩
   .exact congrArg (λn=>[Value.slice (some ⟨b,0,none⟩) n t]) T.symm
   .have:HS l.length t:=hl;rw[<-T]at this;exact this
   .intro i y W;have W:((KQ l F C).toList.map l.get)[i]?=some y:=by rw[E];exact W
    rw[AV]at W;cases hi:(KQ l F C).toList[i]? with
    |none=>rw[hi]at W;cases W
    |some q=>
     rw[hi]at W;cases W;have h9:i<l.length:=by have:=(A9.1 hi).1;rw[BF,J]at this;exact this
     have y7:(KQ l F C)[i]! =q:=by
      have:=(A9.1 hi).2;rw[getElem!_pos _ i (by rw[J];exact h9)];simpa using this
     have z0:((putCells id 0 (flatK s k (KQ l F C)) o).toList.drop (i*k)).take k=s q:=by
      apply BI;intro c;by_cases N:c<k
      .have V:i*k+c<o.size:=by have:=D i h9;omega
       have y0:i*k+c<l.length*k:=by
        have:(i+1)*k<=l.length*k:=AZ k oa;rw[CV]at this;omega
       have h5:(i*k+c) / k=i:=by rw[DL,Nat.mul_add_div hp,Nat.div_eq_of_lt N];omega
       have y1:(i*k+c) % k=c:=by rw[DL,Nat.mul_add_mod,Nat.mod_eq_of_lt N]
       rw[B4,if_pos N,B5,BT];simp only[putCells,Array.getElem?_mapIdx];rw[B7 V];simp only[BH];rw[if_pos ⟨BJ _,by rw[size_flatK,J];omega⟩,Nat.sub_zero,get_flatK _ _ _ _ (by rw[J];exact y0),h5,y1,y7];rw[getElem!_pos (s q) c (by rw[hk];exact N)];simp[hk,N]
      .rw[BY om,BY (by rw[hk];omega)]
     rw[show(Ty.agg p).sz=k from rfl,z0];exact(G q).ext x1
  .have Y:l=[]:=AM oa;exact M (some ⟨b,0,none⟩) t (by rw[X,Y];rfl) Y
end
end Go.Ev.Pv
namespace Go.Proofs
open Tryz
theorem fk{α:Type}{a:Option α}{b c:α}(h:a=some b)(k:b=c:=by kernel_rfl):a=some c:=h.trans (congrArg some k)
open Go.Shelf
def Tryz.lays169_ren:Go.Shelf.Ren:=⟨λ|169=>163|n=>n,λ|70=>275|9=>9|0=>0|72=>278|37=>276|127=>357|3=>3|5=>5|n=>n,λ|n=>n⟩
theorem Tryz.lays169:Go.Proofs.Lays.n169 Tryz.prog Tryz.lays169_ren:=by repeat' first|(intros;kernel_rfl)|decide|constructor
theorem Tryz.Builder_Extra_169:Builder.Extra Tryz.prog Tryz.lays169_ren:=by repeat' first|(intros;kernel_rfl)|decide|constructor
def Tryz.lays159_ren:Go.Shelf.Ren:=⟨λ|159=>156|165=>161|166=>162|167=>174|169=>163|230=>236|204=>237|240=>241|241=>242|197=>284|118=>285|168=>286|270=>287|262=>288|276=>289|277=>290|260=>322|242=>323|313=>324|278=>354|274=>355|275=>356|n=>n,λ|9=>9|4=>4|3=>3|5=>5|72=>278|0=>0|76=>281|75=>280|107=>351|70=>275|20=>20|37=>276|127=>357|21=>21|105=>390|164=>396|162=>432|203=>430|119=>454|46=>238|139=>457|138=>456|51=>309|160=>458|208=>478|206=>476|80=>158|n=>n,λ|13=>1|3=>2|4=>3|n=>n⟩
theorem Tryz.lays159:Go.Proofs.Lays.n159 Tryz.prog Tryz.lays159_ren:=by repeat' first|(intros;kernel_rfl)|decide|constructor
theorem Tryz.Builder_Extra_159:Builder.Extra Tryz.prog Tryz.lays159_ren:=by repeat' first|(intros;kernel_rfl)|decide|constructor
def Tryz.lays156_ren:Go.Shelf.Ren:=⟨λ|156=>114|165=>161|166=>162|169=>163|240=>241|241=>242|276=>289|277=>290|n=>n,λ|31=>28|9=>9|3=>3|4=>4|0=>0|20=>20|72=>278|76=>281|70=>275|37=>276|75=>280|127=>357|164=>396|5=>5|80=>158|n=>n,λ|n=>n⟩
theorem Tryz.lays156:Go.Proofs.Lays.n156 Tryz.prog Tryz.lays156_ren:=by repeat' first|(intros;kernel_rfl)|decide|constructor
theorem Tryz.Builder_Extra_156:Builder.Extra Tryz.prog Tryz.lays156_ren:=by repeat' first|(intros;kernel_rfl)|decide|constructor
open Go.RowKit in
theorem Tryz.strings_Join_none(a:Option Addr)(c:Nat)(sep:ByteArray)(w:World):
 Calls Tryz.prog 114 #[.slice a 0 c,.string sep] w λe b=>e=.returned (.string ⟨#[]⟩)/\b=w:=Any.strings_Join_none Tryz.lays156 Tryz.Builder_Extra_156 a c sep w
open Go.RowKit in
theorem Tryz.strings_Join(bk o c:Nat)(xs:List ByteArray)(sep:ByteArray)(w:World)(h:∀(j:Nat) x,xs[j]?=some x->w.cell? ⟨bk,o+j,none⟩=some (.string x))(d:bk<w.heap.size)(i:xs.length<=140737488355328)(a:xs.length<=c)(b:(Lib.join (xs.map (·.data.toList)) sep.data.toList).length<=140737488355328):
 Calls Tryz.prog 114 #[.slice (some ⟨bk,o,none⟩) xs.length c,.string sep] w λe k=>e=.returned (.string ⟨(Lib.join (xs.map (·.data.toList)) sep.data.toList).toArray⟩)/\Below w.heap.size w k:=Any.strings_Join Tryz.lays156 Tryz.Builder_Extra_156 bk o c xs sep w h d i a b
def Tryz.lays137_ren:Go.Shelf.Ren:=⟨λ|137=>124|217=>171|266=>246|n=>n,λ|9=>9|5=>5|3=>3|n=>n,λ|n=>n⟩
theorem Tryz.lays137:Go.Proofs.Lays.n137 Tryz.prog Tryz.lays137_ren:=by repeat' first|(intros;kernel_rfl)|decide|constructor
open Go.RowKit in
theorem Tryz.strings_IndexByte(s:ByteArray)(c:Int)(w:World):
 Calls Tryz.prog 124 #[.string s,.int .u8 c] w λe a=>e=.returned (.int .i64 (Lib.indexByte s.data.toList c.toNat.toUInt8))/\a=w:=Any.strings_IndexByte Tryz.lays137 s c w
def Tryz.lays103_ren:Go.Shelf.Ren:=⟨λ|103=>234|210=>280|206=>320|n=>n,λ|9=>9|4=>4|24=>133|3=>3|n=>n,λ|n=>n⟩
theorem Tryz.lays103:Go.Proofs.Lays.n103 Tryz.prog Tryz.lays103_ren:=by repeat' first|(intros;kernel_rfl)|decide|constructor
open Go.RowKit in
theorem Tryz.strings_CutPrefix(s p:ByteArray)(w:World):
 Calls Tryz.prog 234 #[.string s,.string p] w λe a=>e=.returned (.tuple #[.string ⟨(Lib.trimPrefix s.data.toList p.data.toList).toArray⟩,.bool (Lib.hasPrefix s.data.toList p.data.toList)])/\a=w:=Any.strings_CutPrefix Tryz.lays103 s p w
def Tryz.laysM171_ren:Go.Shelf.Ren:=⟨λ|171=>271|243=>314|246=>348|283=>368|284=>369|285=>370|286=>371|129=>189|317=>378|318=>379|319=>380|320=>381|337=>383|338=>384|n=>n,λ|3=>3|9=>9|2=>2|4=>4|171=>470|0=>0|53=>311|37=>276|5=>5|173=>472|212=>485|51=>309|20=>20|213=>486|46=>238|232=>487|233=>488|n=>n,λ|17=>6|18=>7|19=>8|n=>n⟩
theorem Tryz.laysM171:Go.Proofs.LaysM.n171 Tryz.prog Tryz.laysM171_ren:=by repeat' first|(intros;kernel_rfl)|decide|constructor
def Tryz.laysC172_ren:Go.Shelf.Ren:=⟨λ|172=>270|244=>312|245=>313|247=>343|279=>344|280=>345|281=>346|282=>347|287=>365|316=>366|171=>271|205=>367|321=>376|322=>377|243=>314|246=>348|283=>368|284=>369|285=>370|286=>371|129=>189|317=>378|318=>379|319=>380|320=>381|337=>383|338=>384|n=>n,λ|9=>9|3=>3|75=>280|76=>281|4=>4|5=>5|167=>442|37=>276|0=>0|85=>443|2=>2|168=>445|53=>311|175=>465|46=>238|210=>468|127=>357|145=>483|143=>481|21=>21|171=>470|173=>472|212=>485|51=>309|20=>20|213=>486|232=>487|233=>488|80=>158|n=>n,λ|15=>4|16=>5|17=>6|18=>7|19=>8|n=>n⟩
theorem Tryz.laysC172:Go.Proofs.LaysC.n172 Tryz.prog Tryz.laysC172_ren:=by repeat' first|(intros;kernel_rfl)|decide|constructor
open Go.RowKit in
theorem Tryz.strconv_Atoi_ok(s:ByteArray)(a:s.size<=9223372036854775806)(v:Int)(h:Lib.atoiAll s.data.toList=.ok v)(w:World):
 Calls Tryz.prog 270 #[.string s] w λe b=>e=.returned (.tuple #[.int .i64 v,.nilIface])/\(b=w\/∃t,b=Lib.bytesWorld w 5 t):=Any.strconv_Atoi_ok Tryz.laysC172 s a v h w
open Go.RowKit in
theorem Tryz.strconv_Atoi_syntax(s:ByteArray)(b:s.size<=281474976710656)(h:Lib.atoiAll s.data.toList=Lib.atoiAll [])(a:Value)(w:World)(j:w.cell? ⟨4,0,none⟩=some a)(d:a=.nilIface\/∃t k,a=.iface t k):
 Calls Tryz.prog 270 #[.string s] w λe i=>∃N,e=.returned (.tuple #[.int .i64 (0),.iface 445 (.pointer (some ⟨N,0,none⟩))])/\w.heap.size<=N/\i.heap[N]?=some (.cells #[.string ⟨#[65,116,111,105]⟩,.string s,a] 468 (0,0))/\Below w.heap.size w i:=Any.strconv_Atoi_syntax Tryz.laysC172 s b h a w j d
open Go.RowKit in
theorem Tryz.strconv_Atoi_range(s:ByteArray)(b:s.size<=281474976710656)(h:Lib.atoiAll s.data.toList=.range)(a:Value)(w:World)(j:w.cell? ⟨5,0,none⟩=some a)(d:a=.nilIface\/∃t k,a=.iface t k):
 Calls Tryz.prog 270 #[.string s] w λe i=>∃N,e=.returned (.tuple #[.int .i64 (Lib.atoiSat s.data.toList),.iface 445 (.pointer (some ⟨N,0,none⟩))])/\w.heap.size<=N/\i.heap[N]?=some (.cells #[.string ⟨#[65,116,111,105]⟩,.string s,a] 468 (0,0))/\Below w.heap.size w i:=Any.strconv_Atoi_range Tryz.laysC172 s b h a w j d
def Tryz.lays145_ren:Go.Shelf.Ren:=⟨λ|145=>226|220=>275|219=>319|217=>171|225=>351|224=>352|267=>353|266=>246|314=>372|n=>n,λ|9=>9|4=>4|59=>343|3=>3|5=>5|46=>238|146=>449|51=>309|n=>n,λ|1=>0|n=>n⟩
theorem Tryz.lays145:Go.Proofs.Lays.n145 Tryz.prog Tryz.lays145_ren:=by repeat' first|(intros;kernel_rfl)|decide|constructor
open Go.RowKit Go.Lib in
theorem Tryz.strings_Cut(s sep:ByteArray)(m:Int)(w:World)(a:s.size<4294967281)(h:w.cell? ⟨0,0,none⟩=some (.int .i64 m)):
 Calls Tryz.prog 226 #[.string s,.string sep] w λe b=>e=.returned (.tuple #[.string ⟨(Lib.cut s.data.toList sep.data.toList).1.toArray⟩,.string ⟨(Lib.cut s.data.toList sep.data.toList).2.1.toArray⟩,.bool (Lib.cut s.data.toList sep.data.toList).2.2])/\∃n,b=w.drewN n:=Any.strings_Cut Tryz.lays145 s sep m w a h
def Tryz.lays190_ren:Go.Shelf.Ren:=⟨λ|190=>78|125=>135|258=>134|128=>188|129=>189|302=>179|303=>180|304=>181|305=>182|306=>183|307=>184|308=>185|309=>186|310=>187|333=>250|329=>251|330=>252|334=>253|335=>254|336=>109|344=>301|n=>n,λ|31=>28|9=>9|3=>3|46=>238|0=>0|51=>309|53=>311|4=>4|183=>302|182=>301|131=>129|5=>5|218=>365|222=>369|228=>410|229=>408|n=>n,λ|n=>n⟩
theorem Tryz.lays190:Go.Proofs.Lays.n190 Tryz.prog Tryz.lays190_ren:=by repeat' first|(intros;kernel_rfl)|decide|constructor
open Go.Sort Go.RowKit in
theorem Tryz.slices_Sort_string(b off cap:Nat)(ss:List (List UInt8))(w:World)(d:Holds encStr w b off ss.toArray)(h:b<w.heap.size)(a:ss.length<4611686018427387904):
 Calls Tryz.prog 78 #[.slice (some ⟨b,off,none⟩) ss.length cap] w λe i=>
  e=.returned (.tuple #[])/\∃n os,i=grow (putRow encStr (Sort.ahead w n) b off (ss.mergeSort λx y=>decide (x<=y)).toArray) os:=Any.slices_Sort_string Tryz.lays190 b off cap ss w d h a
def Tryz.lays149_ren:Go.Shelf.Ren:=⟨λ|149=>230|222=>276|n=>n,λ|9=>9|5=>5|3=>3|4=>4|n=>n,λ|n=>n⟩
theorem Tryz.lays149:Go.Proofs.Lays.n149 Tryz.prog Tryz.lays149_ren:=by repeat' first|(intros;kernel_rfl)|decide|constructor
open Go.RowKit Go.Lib in
theorem Tryz.strings_LastIndexByte(s:ByteArray)(c:Int)(h:s.size<4611686018427387904)(w:World):
 Calls Tryz.prog 230 #[.string s,.int .u8 c] w λe a=>e=.returned (.int .i64 (Lib.lastIndexByte s c))/\a=w:=Any.strings_LastIndexByte Tryz.lays149 s c h w
def Tryz.lays99_ren:Go.Shelf.Ren:=⟨λ|99=>316|206=>320|n=>n,λ|9=>9|4=>4|3=>3|n=>n,λ|n=>n⟩
theorem Tryz.lays99:Go.Proofs.Lays.n99 Tryz.prog Tryz.lays99_ren:=by repeat' first|(intros;kernel_rfl)|decide|constructor
open Go.RowKit Go.Lib in
theorem Tryz.strings_HasPrefix(s p:ByteArray)(w:World):
 Calls Tryz.prog 316 #[.string s,.string p] w λe a=>e=.returned (.bool (Lib.hasPrefix s.data.toList p.data.toList))/\a=w:=Any.strings_HasPrefix Tryz.lays99 s p w
def Tryz.lays101_ren:Go.Shelf.Ren:=⟨λ|101=>231|208=>277|206=>320|n=>n,λ|9=>9|4=>4|3=>3|n=>n,λ|n=>n⟩
theorem Tryz.lays101:Go.Proofs.Lays.n101 Tryz.prog Tryz.lays101_ren:=by repeat' first|(intros;kernel_rfl)|decide|constructor
open Go.RowKit Go.Lib in
theorem Tryz.strings_TrimPrefix(s p:ByteArray)(w:World):
 Calls Tryz.prog 231 #[.string s,.string p] w λe a=>e=.returned (.string ⟨(Lib.trimPrefix s.data.toList p.data.toList).toArray⟩)/\a=w:=Any.strings_TrimPrefix Tryz.lays101 s p w
def Tryz.lays146_ren:Go.Shelf.Ren:=⟨λ|146=>170|221=>245|268=>292|138=>293|143=>294|195=>325|197=>284|218=>326|219=>319|260=>322|217=>171|225=>351|224=>352|267=>353|266=>246|314=>372|n=>n,λ|9=>9|31=>28|3=>3|4=>4|0=>0|105=>390|21=>21|5=>5|46=>238|119=>454|139=>457|138=>456|146=>449|51=>309|n=>n,λ|1=>0|3=>2|4=>3|n=>n⟩
theorem Tryz.lays146:Go.Proofs.Lays.n146 Tryz.prog Tryz.lays146_ren:=by repeat' first|(intros;kernel_rfl)|decide|constructor
open Go.RowKit Go.Lib in
theorem Tryz.strings_Split(s sep:ByteArray)(m:Int)(w:World)(b:s.size<4294967281)(a:w.cell? ⟨0,0,none⟩=some (.int .i64 m))(h:1<=sep.size):
 Calls Tryz.prog 170 #[.string s,.string sep] w λe d=>
  e=.returned (.slice (some ⟨w.heap.size,0,none⟩) (Lib.countB s sep+1) (Lib.countB s sep+1))/\d=w.alloc (.cells ((Lib.splitB sep 0 (Lib.countB s sep) s).map Value.string).toArray 9):=Any.strings_Split Tryz.lays146 oh s sep m w b a h
def Tryz.lays105_ren:Go.Shelf.Ren:=⟨λ|105=>272|212=>315|99=>316|165=>161|166=>162|170=>317|169=>163|263=>349|264=>350|206=>320|240=>241|241=>242|276=>289|277=>290|n=>n,λ|9=>9|3=>3|4=>4|20=>20|0=>0|46=>238|109=>424|5=>5|72=>278|76=>281|51=>309|146=>449|53=>311|148=>451|70=>275|37=>276|75=>280|127=>357|164=>396|80=>158|n=>n,λ|n=>n⟩
theorem Tryz.lays105:Go.Proofs.Lays.n105 Tryz.prog Tryz.lays105_ren:=by repeat' first|(intros;kernel_rfl)|decide|constructor
theorem Tryz.Builder_Extra_105:Builder.Extra Tryz.prog Tryz.lays105_ren:=by repeat' first|(intros;kernel_rfl)|decide|constructor
open Go.RowKit Go.Lib in
theorem Tryz.strings_Repeat(s:ByteArray)(c:Nat)(w:World)(hc:c<=9223372036854775807)(h:s.size*c<=140737488355328):
 Calls Tryz.prog 272 #[.string s,.int .i64 c] w λe a=>e=.returned (.string ⟨(Lib.repeatL s.data.toList c).toArray⟩)/\Below w.heap.size w a:=Any.strings_Repeat Tryz.lays105 Tryz.Builder_Extra_105 s c w hc h
def Tryz.lays229_ren:Go.Shelf.Ren:=⟨λ|229=>281|n=>n,λ|9=>9|40=>389|31=>28|152=>426|3=>3|0=>0|4=>4|21=>21|154=>428|n=>n,λ|n=>n⟩
theorem Tryz.lays229:Go.Proofs.Lays.n229 Tryz.prog Tryz.lays229_ren:=by repeat' first|(intros;kernel_rfl)|decide|constructor
open Go.RowKit Go.Lib in
theorem Tryz.strings_ToLower_any(s:ByteArray)(w:World)(b:s.size<35184372088832)(a:CaseVar 1 caseA w)(h:Lib.Utf8Tabs 2 3 w):
 Calls Tryz.prog 156 #[.string s] w λe d=>e=.returned (.string ⟨(Lib.toLowerD s.data.toList).toArray⟩)/\Below w.heap.size w d:=Any.strings_ToLower_any Tryz.lays159 Tryz.Builder_Extra_159 s w b a h
def Tryz.lays194_ren:Go.Shelf.Ren:=⟨λ|194=>79|n=>n,λ|31=>28|9=>9|3=>3|4=>4|0=>0|n=>n,λ|n=>n⟩
theorem Tryz.lays194:Go.Proofs.Lays.n194 Tryz.prog Tryz.lays194_ren:=by repeat' first|(intros;kernel_rfl)|decide|constructor
open Go.RowKit Go.Lib Go.Sort in
theorem Tryz.slices_Compact_string(b off cap:Nat)(z:List (List UInt8))(w:World)(d:Holds encStr w b off z.toArray)(a:z.length<=9223372036854775807)(h:z.length<=cap):
 Calls Tryz.prog 79 #[.slice (some ⟨b,off,none⟩) z.length cap] w λe i=>e=.returned (.slice (some ⟨b,off,none⟩) (Lib.compact z).length cap)/\∃q,i=putRow encStr (Sort.ahead w q) b off (Lib.compact z++List.replicate (z.length-(Lib.compact z).length) []).toArray:=Any.slices_Compact_string Tryz.lays194 b off cap z w d a h
open Go.RowKit Go.Lib Go.Sort in
theorem Tryz.slices_Compact_string_empty(a:Option Addr)(cap:Nat)(w:World):
 Calls Tryz.prog 79 #[.slice a 0 cap] w λe b=>e=.returned (.slice a 0 cap)/\b=w:=Any.slices_Compact_string_empty Tryz.lays194 a cap w
open Go.RowKit Go.Sort in
theorem Tryz.slices_Sort_string_none(p:Option Addr)(cap:Nat)(w:World):
 Calls Tryz.prog 78 #[.slice p 0 cap] w λe a=>e=.returned (.tuple #[])/\a=w:=Any.slices_Sort_string_none Tryz.lays190 p cap w
end Go.Proofs
namespace Go.Ev.Pv
variable{P:Program}{w w':World}{n b cap el:Nat}{v:Value}{I:Im}{xs:List DX}{cells:Array Value}
open Go.Proofs Go.RowKit Go.Lib
def HoldsTab(w:World)(g:Nat)(k:IntKind)(zs:List Int):Prop:=∃el fz,w.heap[g]?=some (.cells (zs.map λz=>Value.int k z).toArray el fz)
theorem AH0{n:String}{g:Nat}{k:IntKind}{z:List Int}(a:P.globalNamed n=some g)(h:HoldsTab w g k z):Lib.TabIs P w n k z:=by
 obtain⟨el,fz,h⟩:=h;unfold Lib.TabIs World.var?;rw[a];simp only[A0,h]
theorem yQ{o:Go.Obj}(h:w.heap[b]?=some o):b<w.heap.size:=(BO.1 h).1
def Facts(w:World):Prop:=
 HoldsTab w 6 .u64 Lib.pow10Tab/\CaseVar 1 caseA w/\Lib.Utf8Tabs 2 3 w/\(∃m,w.cell? ⟨0,0,none⟩=some (.int .i64 m))/\
 (∃ev,w.cell? ⟨4,0,none⟩=some ev/\(ev=.nilIface\/∃te pe,ev=.iface te pe))/\(∃ev,w.cell? ⟨5,0,none⟩=some ev/\(ev=.nilIface\/∃te pe,ev=.iface te pe))
theorem aF{o:Nat}(h:w.cell? ⟨b,o,none⟩=some v):b<w.heap.size:=by
 apply C0;intro a;simp only[World.cell?,Array.getElem?_eq_none (DE a)]at h;cases h
theorem Facts.below(h:Facts w)(a:Below w.heap.size w w'):Facts w':=by
 obtain⟨b,q,r,⟨m,i⟩,⟨l,j,d⟩,o,k,e⟩:=h;exact⟨(let ⟨el,fz,b⟩:=b;⟨el,fz,(a.block 6 (yQ b)).trans b⟩),CaseVar_below q a,Utf8Tabs_below r a,⟨m,(a.cell (aF i)).trans i⟩,⟨l,(a.cell (aF j)).trans j,d⟩,o,(a.cell (aF k)).trans k,e⟩
theorem Facts.later(h:Facts w)(d:∀b,b<w.heap.size->w'.heap[b]?=w.heap[b]?):Facts w':=by
 have j:w.heap.size<=w'.heap.size:=by
  apply C0;intro k;have a:=d w'.heap.size oa;rw[Array.getElem?_eq_none (AH _),B7 oa]at a;cases a
 have i:Below w.heap.size w {w' with os:=w.os,tape:=w.tape,output:=w.output}:=⟨rfl,rfl,rfl,j,d⟩;have e:=h.below i;exact e
noncomputable instance:Pins:=⟨Tryz.prog,λw I=>∃w0,Facts w0/\∀b,b<w0.heap.size->I.obj b/\w.heap[b]?=w0.heap[b]?,
 λ⟨w0,h1,h2⟩ e=>⟨w0,h1,λb hb=>⟨(e.obj b (h2 b hb).1).1,(e.obj b (h2 b hb).1).2.trans (h2 b hb).2⟩⟩⟩
theorem facts(h:HY w I):Facts w:=let ⟨_,h1,h2⟩:=h.2.2;h1.later λb a=>(h2 b a).2
theorem IZ{f:Nat}{fn:Func}(h:Tryz.prog.funcs[f]?=some fn)(b:(fn.name== "runtime.NumGoroutine")=false)(a:fn.body=some (EP fn)):FI Tryz.prog f:=⟨fn,_,h,b,a⟩
def AH1:FSpec:=⟨[.val (.int .i64)],[.val .str],strconv_Itoa,true⟩
theorem NL:FI Go.Proofs.Tryz.prog 271/\FunOK Go.Proofs.Tryz.prog 271 AH1:=by
 refine⟨IZ Tryz.func271 oh oh,FunOK.flat1 (t:=.str) rfl rfl (λa=>by cases a<;>rfl) λw I v a s l h r o=>?_⟩;obtain⟨rfl,x,rfl,q⟩:=yO h;obtain⟨rfl,b,d⟩:=kV q;cases o;refine⟨rfl,.string ⟨(QA v).toArray⟩,λw' I'=>LQ (NK (AT (A3G v) oi)),?_⟩;rw[AGh b d];refine(Any.strconv_Itoa Tryz.laysM171 v b d w (AH0 (g:=6) oh (facts l).1)).mono λe w' ⟨j,k,os,i⟩=>⟨j,?_,λ_=>?_⟩
 .rw[i];exact Lib.below_grow _ w (AH _) k os
 .rw[i];exact Nat.le_add_right _ _
theorem SQ{D:Prop}(h:w'=w):Below w.heap.size w w'/\(D->w.drawn<=w'.drawn):=by
 subst h;exact⟨Below.refl _ _,λ_=>AH _⟩
theorem A4w{D:Prop}(h:∃n,w'=w.drewN n):Below w.heap.size w w'/\(D->w.drawn<=w'.drawn):=by
 obtain⟨n,rfl⟩:=h;exact⟨⟨rfl,rfl,rfl,AH _,λ_ _=>rfl⟩,λ_=>Nat.le_add_right _ _⟩
theorem aG{a:DX}(h:a.length<n):(⟨a.toArray⟩:ByteArray).size<n:=by rw[N5];exact h
theorem AH2{a:DX}{k:Nat}(h:a.length*k<=n):(⟨a.toArray⟩:ByteArray).size*k<=n:=by rw[N5];exact h
theorem AH3(s p:DX):(Lib.cut s p).1.length<=s.length/\(Lib.cut s p).2.1.length<=s.length:=by
 unfold Lib.cut;split
 .simp only[AY,BU];omega
 .simp
theorem AH4{s:DX}{k:Nat}(h:s.length*k<=140737488355328):(Lib.repeatL s k).length<=281474976710656:=by rw[Lib.repeatL_length,DL];omega
theorem aH{n:Int}(h:-9223372036854775808<=n)(a:n<=9223372036854775807):GK .i64 n:=⟨h,a⟩
theorem AH5{n:Int}(h:GK .i64 n):n<=9223372036854775807:=h.2
theorem AH6(c:UInt8):∀l:List UInt8,Lib.indexByte l c<=l.length:=by
 intro l;induction l with
 |nil=>simp[Lib.indexByte]
 |cons b l i=>
  simp only[Lib.indexByte,AX]
  repeat' split
  all_goals omega
def AH7:FSpec:=⟨[.val .str,.val (.int .u8)],[.val (.int .i64)],strings_IndexByte,true⟩
theorem VP:FI Go.Proofs.Tryz.prog 124/\FunOK Go.Proofs.Tryz.prog 124 AH7:=by
 refine⟨IZ Tryz.func124 oh oh,FunOK.flat1 (t:=.int .i64) rfl rfl (λa=>by rcases a with _|⟨_,_|⟨_,_⟩⟩<;>rfl) λw I v a l t b r h=>?_⟩;obtain⟨rfl,x,y,rfl,j,k⟩:=P7 b;obtain⟨rfl,o⟩:=JV j;obtain⟨rfl,q⟩:=kV k;obtain⟨s,h⟩:=O7 h;cases h;refine⟨rfl,_,λw' I'=>LQ (kW (k:=.i64) (n:=Lib.indexByte v.1 v.2.toNat.toUInt8) ?_),?_⟩
 .have k1:=AH6 v.2.toNat.toUInt8 v.1;have z:=Lib.indexByte_ge v.1 v.2.toNat.toUInt8;exact aH oa oa
 .exact(Tryz.strings_IndexByte ⟨v.1.toArray⟩ v.2 w).mono λe w' ⟨d,i⟩=>⟨d,SQ i⟩
theorem AH8(s:ByteArray)(c:Int):∀k,-1<=Lib.lastIdx s c k/\Lib.lastIdx s c k<=k:=by
 intro k;induction k with
 |zero=>simp[Lib.lastIdx]
 |succ k i=>
  simp only[Lib.lastIdx];split<;>omega
def AH9:FSpec:=⟨[.val .str,.val (.int .u8)],[.val (.int .i64)],strings_LastIndexByte,true⟩
theorem AHA:FI Go.Proofs.Tryz.prog 230/\FunOK Go.Proofs.Tryz.prog 230 AH9:=by
 refine⟨IZ Tryz.func230 oh oh,FunOK.flat1 (t:=.int .i64) rfl rfl (λa=>by rcases a with _|⟨_,_|⟨_,_⟩⟩<;>rfl) λw I v a q z b r h=>?_⟩;obtain⟨rfl,x,y,rfl,l,o⟩:=P7 b;obtain⟨rfl,s⟩:=JV l;obtain⟨rfl,t⟩:=kV o;obtain⟨i,h⟩:=O7 h;cases h;have d:(⟨v.1.toArray⟩:ByteArray).size=v.1.length:=N5 v.1;refine⟨rfl,_,λw' I'=>LQ (kW (k:=.i64) (n:=Lib.lastIndexByte ⟨v.1.toArray⟩ v.2) ?_),?_⟩
 .have k1:=AH8 ⟨v.1.toArray⟩ v.2 (⟨v.1.toArray⟩:ByteArray).size;have A:((⟨v.1.toArray⟩:ByteArray).size:Int)=(v.1.length:Nat):=by rw[d]
  unfold Lib.lastIndexByte;exact aH oa oa
 .exact(Tryz.strings_LastIndexByte ⟨v.1.toArray⟩ v.2 (aG i) w).mono λe w' ⟨j,k⟩=>⟨j,SQ k⟩
def AHB:FSpec:=⟨[.val .str,.val .str],[.val .bool],strings_HasPrefix,true⟩
theorem AHC:FI Go.Proofs.Tryz.prog 316/\FunOK Go.Proofs.Tryz.prog 316 AHB:=by
 refine⟨IZ Tryz.func316 oh oh,FunOK.flat1 (t:=.bool) rfl rfl (λa=>by rcases a with _|⟨_,_|⟨_,_⟩⟩<;>rfl) λw I v a l s h r d=>?_⟩;obtain⟨rfl,x,y,rfl,j,k⟩:=P7 h;obtain⟨rfl,o⟩:=JV j;obtain⟨rfl,q⟩:=JV k;cases d;exact⟨rfl,_,λw' I'=>LQ yN,(Tryz.strings_HasPrefix ⟨v.1.toArray⟩ ⟨v.2.toArray⟩ w).mono λe w' ⟨b,i⟩=>⟨b,SQ i⟩⟩
theorem trimPrefix_len(s p:DX):(Lib.trimPrefix s p).length<=s.length:=by
 unfold Lib.trimPrefix;split
 .simp
 .exact AH _
def AHD:FSpec:=⟨[.val .str,.val .str],[.val .str],strings_TrimPrefix,true⟩
theorem AHE:FI Go.Proofs.Tryz.prog 231/\FunOK Go.Proofs.Tryz.prog 231 AHD:=by
 refine⟨IZ Tryz.func231 oh oh,FunOK.flat1 (t:=.str) rfl rfl (λa=>by rcases a with _|⟨_,_|⟨_,_⟩⟩<;>rfl) λw I v a o s h r i=>?_⟩;obtain⟨rfl,x,y,rfl,k,l⟩:=P7 h;obtain⟨rfl,b⟩:=JV k;obtain⟨rfl,q⟩:=JV l;cases i;exact⟨rfl,_,λw' I'=>LQ (NK (AT (trimPrefix_len v.1 v.2) b)),(Tryz.strings_TrimPrefix ⟨v.1.toArray⟩ ⟨v.2.toArray⟩ w).mono λe w' ⟨d,j⟩=>⟨d,SQ j⟩⟩
def AHF:FSpec:=⟨[.val .str,.val .str],[.val .str,.val .bool],strings_CutPrefix,true⟩
theorem AHG:FI Go.Proofs.Tryz.prog 234/\FunOK Go.Proofs.Tryz.prog 234 AHF:=by
 refine⟨IZ Tryz.func234 oh oh,FunOK.given λw I v a o s h r j=>?_⟩;obtain⟨rfl,x,y,rfl,k,l⟩:=P7 h;obtain⟨rfl,d⟩:=JV k;obtain⟨rfl,q⟩:=JV l;cases j;refine⟨rfl,(Tryz.strings_CutPrefix ⟨v.1.toArray⟩ ⟨v.2.toArray⟩ w).mono λe w' ⟨i,b⟩=>⟨_,[_,_],QP,i,rfl,rfl,(SQ (D:=True) b).1,λ_=>(SQ b).2 trivial,SP,?_⟩⟩;exact AGx (a:=.str) (b:=.bool) (x:=(Lib.trimPrefix v.1 v.2,Lib.hasPrefix v.1 v.2)) (NK (AT (trimPrefix_len v.1 v.2) d)) yN
def AHH:FSpec:=⟨[.val .str,.val .str],[.val .str,.val .str,.val .bool],strings_Cut,true⟩
theorem A4x:FI Go.Proofs.Tryz.prog 226/\FunOK Go.Proofs.Tryz.prog 226 AHH:=by
 refine⟨IZ Tryz.func226 oh oh,FunOK.given λw I v d z q b r a=>?_⟩;obtain⟨rfl,x,y,rfl,s,t⟩:=P7 b;obtain⟨rfl,i⟩:=JV s;obtain⟨rfl,A⟩:=JV t;obtain⟨l,a⟩:=O7 a;cases a;obtain⟨m,h⟩:=(facts q).2.2.2.1;refine⟨rfl,(Tryz.strings_Cut ⟨v.1.toArray⟩ ⟨v.2.toArray⟩ m w (aG l) h).mono λe w' ⟨o,k⟩=>⟨_,[_,_,_],QP,o,rfl,rfl,(A4w (D:=True) k).1,λ_=>(A4w k).2 trivial,SP,?_⟩⟩;have j:=AH3 v.1 v.2;exact AGy (a:=.str) (b:=.str) (c:=.bool) (x:=Lib.cut v.1 v.2) (NK (AT j.1 i)) (NK (AT j.2 i)) yN
def AHI:FSpec:=⟨[.val .str,.val (.int .i64)],[.val .str],strings_Repeat,false⟩
theorem AHJ:FI Go.Proofs.Tryz.prog 272/\FunOK Go.Proofs.Tryz.prog 272 AHI:=by
 refine⟨IZ Tryz.func272 oh oh,FunOK.flat1 (t:=.str) rfl rfl (λa=>by rcases a with _|⟨_,_|⟨_,_⟩⟩<;>rfl) λw I v a A C i r d=>?_⟩;obtain⟨rfl,x,y,rfl,t,z⟩:=P7 i;obtain⟨rfl,B⟩:=JV t;obtain⟨rfl,k⟩:=kV z;obtain⟨⟨l,j⟩,d⟩:=O7 d;cases d;have q:((v.2.toNat:Nat):Int)=v.2:=Int.toNat_of_nonneg l
 have hk:v.2.toNat<=9223372036854775807:=by
  have:=AH5 k;omega
 have b:=AH4 j;refine⟨rfl,_,λw' I'=>LQ (NK b),?_⟩;have:=Tryz.strings_Repeat ⟨v.1.toArray⟩ v.2.toNat w hk (AH2 j);rw[q]at this;exact this.mono λe w' ⟨o,s⟩=>⟨o,s,λh=>ol⟩
def AHK:FSpec:=⟨[.val .str],[.val .str],R_,false⟩
theorem A4y:FI Go.Proofs.Tryz.prog 156/\FunOK Go.Proofs.Tryz.prog 156 AHK:=by
 refine⟨IZ Tryz.func156 oh oh,FunOK.flat1 (t:=.str) rfl rfl (λa=>by cases a<;>rfl) λw I v a s i d r b=>?_⟩;obtain⟨rfl,x,rfl,q⟩:=yO d;obtain⟨rfl,t⟩:=JV q;obtain⟨j,b⟩:=O7 b;obtain⟨rfl,k⟩:=str?_some b;exact⟨rfl,_,λw' I'=>LQ (NK k),(Tryz.strings_ToLower_any ⟨v.toArray⟩ w (aG j) (facts i).2.1 (facts i).2.2.1).mono λe w' ⟨l,o⟩=>⟨l,o,λh=>ol⟩⟩
theorem AHL(w:World)(t:TypeId)(s:ByteArray):Below w.heap.size w (Lib.bytesWorld w t s):=by
 unfold Lib.bytesWorld;exact Lib.below_freeze (((Below.refl _ _).drew).alloc (AH _) _) (p:=⟨w.heap.size,_,none⟩) (AH _) _
def AHM:FSpec:=⟨[.val .str],[.val (.int .i64),.any],eX,false⟩
theorem yR{n:Int}(h:GK .i64 n)(v:Value):ShL P w I [.val (.int .i64),.any] (n,()) [.int .i64 n,v] []:=
 ⟨_,_,[],[],rfl,rfl,⟨kW h,rfl⟩,v,rfl,rfl⟩
theorem AHN{s:DX}{v:Int}(h:Lib.atoiAll s=.ok v):GK .i64 v:=by
 unfold Lib.atoiAll at h;split at h
 .cases h
 .simp only at h;split at h
  .cases h
  .cases h
  .rename_i u a;split at h
   .cases h
   .split at h
    .cases h
    .cases h;split<;>exact aH oa oa
theorem AHO(s:DX):GK .i64 (Lib.atoiSat s):=by
 unfold Lib.atoiSat;split<;>exact aH oi oi
theorem strconv_Atoi_ok:FI Go.Proofs.Tryz.prog 270/\FunOK Go.Proofs.Tryz.prog 270 AHM:=by
 refine⟨IZ Tryz.func270 oh oh,FunOK.given λw I v q D B o r a=>?_⟩;obtain⟨rfl,x,rfl,C⟩:=yO o;obtain⟨rfl,E⟩:=JV C;obtain⟨G,a⟩:=O7 a;have l:(⟨Array.mk v⟩:ByteArray).size<=281474976710656:=by have:=aG (a:=v) (n:=281474976710657) oa;exact Nat.le_of_lt_succ this
 refine⟨rfl,?_⟩;obtain⟨_,_,_,_,⟨s,z,j⟩,y,A,k⟩:=facts B;cases b:Lib.atoiAll v
 .rename_i n;rw[b]at a;dsimp only at a;cases a;refine(Tryz.strconv_Atoi_ok ⟨v.toArray⟩ (AT l oi) n b w).mono λe w' ⟨d,i⟩=>⟨_,[_,_],QP,d,rfl,rfl,?_,(λh=>ol),SP,yR (AHN b) _⟩;rcases i with rfl|⟨t,rfl⟩
  .exact Below.refl _ _
  .exact AHL _ _ _
 .rw[b]at a;dsimp only at a;cases a;exact(Tryz.strconv_Atoi_syntax ⟨v.toArray⟩ l b s w z j).mono λe w' ⟨N,d,_,_,i⟩=>⟨_,[_,_],QP,d,rfl,rfl,i,(λh=>ol),SP,yR (aH oi oi) _⟩
 .rw[b]at a;dsimp only at a;cases a;exact(Tryz.strconv_Atoi_range ⟨v.toArray⟩ l b y w A k).mono λe w' ⟨N,d,_,_,i⟩=>⟨_,[_,_],QP,d,rfl,rfl,i,(λh=>ol),SP,yR (AHO v) _⟩
theorem A4z{P:Program}{X:Nat->Nat->Prop}{el:TypeId}{fz:Nat×Nat}(r:w.heap[b]?=some (.cells cells el fz))(a:xs.length<=cap)(v:xs.length<=281474976710656)
 (hc:∀(i:Nat) x,xs[i]?=some x->cells[i]?=some (.string ⟨x.toArray⟩))(y:∀x∈xs,x.length<=281474976710656)(q:∀o,o<xs.length->X b o):
 VRel w (VO I X) (.slice .str) xs (.slice (some ⟨b,0,none⟩) xs.length cap):=by
 refine⟨_,rfl,_,_,rfl,⟨a,v⟩,(λh=>ol),λz d=>?_⟩;cases d;refine⟨λ_=>rfl,λi x l=>⟨[.string ⟨(show DX from x).toArray⟩],⟨rfl,λj t=>?_⟩,rfl,y x (AI l)⟩⟩;have k:j=0:=by have:j<1:=t;omega
 subst k;have e:(0+i*Ty.str.sz+0)=i:=by show 0+i*1+0=i;omega
 have s:i<xs.length:=(A9.1 l).1;refine⟨.inr ?_,?_⟩
 .rw[e];exact q i s
 .show w.cell? ⟨b,0+i*Ty.str.sz+0,none⟩=_;rw[e];simp only[World.cell?,r,hc i x l];rfl
theorem AHP(sep:ByteArray)(b:1<=sep.size):∀(k:Nat) (s:ByteArray),Lib.countB s sep=k->(Lib.splitB sep 0 k s).length=k+1:=by
 intro k;induction k with
 |zero=>intro s _;rfl
 |succ k e=>
  intro s hk;by_cases d:Lib.indexB s sep= -1
  .rw[Lib.countB_miss s sep d]at hk;cases hk
  .have h:=Lib.index_ge s.data.toList sep.data.toList;obtain⟨i,a⟩:∃i:Nat,Lib.indexB s sep=i:=⟨(Lib.indexB s sep).toNat,by have:-1<=Lib.indexB s sep:=h;omega⟩;rw[Lib.splitB_hit sep 0 k s i a,AX,e];have:=Lib.countB_hit s sep i b a;omega
theorem AHQ(sep:ByteArray)(n:Nat):∀(k:Nat) (s:ByteArray),s.size<=n->∀x∈Lib.splitB sep 0 k s,x.size<=n:=by
 intro k;induction k with
 |zero=>intro s a x h;rw[Lib.splitB_zero,AJ]at h;subst h;exact a
 |succ k i=>
  intro s a x h;unfold Lib.splitB at h;split at h
  .rw[AJ]at h;subst h;exact a
  .rcases B2.1 h with rfl|h
   .rw[CZ];omega
   .exact i _ (by rw[CZ];omega) x h
def AHR:FSpec:=⟨[.val .str,.val .str],[.val (.slice .str)],strings_Split,true⟩
theorem A50:FI Go.Proofs.Tryz.prog 170/\FunOK Go.Proofs.Tryz.prog 170 AHR:=by
 refine⟨IZ Tryz.func170 oh oh,FunOK.given λw I v A L J t r s=>?_⟩;obtain⟨rfl,x,y,rfl,a,K⟩:=P7 t;obtain⟨rfl,D⟩:=JV a;obtain⟨rfl,M⟩:=JV K;obtain⟨⟨B,G⟩,s⟩:=O7 s;cases s;obtain⟨m,q⟩:=(facts J).2.2.2.1;have d:1<=(⟨Array.mk v.2⟩:ByteArray).size:=G;have h:=AHP ⟨Array.mk v.2⟩ d _ ⟨Array.mk v.1⟩ rfl;refine⟨rfl,(Tryz.strings_Split ⟨v.1.toArray⟩ ⟨v.2.toArray⟩ m w (aG B) q d).mono λe w' ⟨H,z⟩=>?_⟩
 have k:w'.heap[w.heap.size]?=some (.cells ((Lib.splitB ⟨v.2.toArray⟩ 0 (Lib.countB ⟨v.1.toArray⟩ ⟨v.2.toArray⟩) ⟨v.1.toArray⟩).map Value.string).toArray 9 (0,0)):=by
  rw[z];show(w.heap.push _)[w.heap.size]?=_;rw[DQ]
 have l:Below w.heap.size w w':=by rw[z];exact(Below.refl _ _).alloc (AH _) _
 refine⟨_,[_],λb o=>b=w.heap.size,H,rfl,rfl,l,?_,?_,LQ ?_⟩
 .intro _;rw[z];exact AH _
 .rintro b o rfl;exact⟨AH _,yQ k⟩
 .have C:Lib.countB ⟨Array.mk v.1⟩ ⟨Array.mk v.2⟩<=v.1.length+1:=Lib.count_le v.1 v.2
  have:=A4z (P:=Tryz.prog) (I:=I) (X:=λb o=>b=w.heap.size) (xs:=(Lib.splitB ⟨v.2.toArray⟩ 0 (Lib.countB ⟨v.1.toArray⟩ ⟨v.2.toArray⟩) ⟨v.1.toArray⟩).map λb=>b.data.toList)
   (cap:=Lib.countB ⟨v.1.toArray⟩ ⟨v.2.toArray⟩+1) k ?_ ?_ ?_ ?_ (λo _=>rfl)
  .rw[AN]at this;rw[h]at this;exact this
  .rw[AN];exact Nat.le_of_eq h
  .rw[AN];refine AT (Nat.le_of_eq h) ?_;have E:v.1.length<4294967281:=B;omega
  .intro i x a;rw[AV]at a;cases j:(Lib.splitB ⟨v.2.toArray⟩ 0 (Lib.countB ⟨v.1.toArray⟩ ⟨v.2.toArray⟩) ⟨v.1.toArray⟩)[i]? with
   |none=>rw[j]at a;cases a
   |some b=>rw[j]at a;cases a;simp[j]
  .intro x a;obtain⟨b,j,rfl⟩:=B1.1 a;have:=AHQ ⟨v.2.toArray⟩ v.1.length _ ⟨v.1.toArray⟩ (Nat.le_of_eq (N5 v.1)) b j;have e:b.data.toList.length=b.size:=rfl;rw[e];exact AT this D
theorem AHS(h:VRel w I (.slice .str) xs v):
 (∃a cap,v=.slice a 0 cap/\xs=[])\/∃b o cap,v=.slice (some ⟨b,o,none⟩) xs.length cap/\b<w.heap.size/\xs.length<=cap/\
  ∀(j:Nat) x,xs[j]?=some x->w.cell? ⟨b,o+j,none⟩=some (.string ⟨x.toArray⟩)/\x.length<=281474976710656:=by
 obtain⟨c,l,a,cap,e,r,t,y⟩:=h;have l:c=[v]:=l;rw[l]at e;have e:v=.slice a xs.length cap:=AB.1 e;by_cases k:xs=[]
 .subst k;exact .inl ⟨a,cap,e,rfl⟩
 .right;cases a with
  |none=>exact absurd (t rfl).1 k
  |some q=>
   obtain⟨d,z⟩:=y q rfl;obtain⟨b,o,sp⟩:=q;have d:(⟨b,o,sp⟩:Addr).spot=none:=d λs=>k (AM (Nat.le_zero.1 (s▸r.1)));cases d
   have key:∀(j:Nat) x,xs[j]?=some x->w.cell? ⟨b,o+j,none⟩=some (.string ⟨x.toArray⟩)/\x.length<=281474976710656:=by
    intro j x A;obtain⟨E,⟨k1,B⟩,C,D⟩:=z j x A;have:=(B 0 Nat.one_pos).2;rw[C]at this;exact⟨by rw[<-show o+j*Ty.str.sz+0=o+j by show o+j*1+0=o+j;omega];exact this,D⟩
   have i:0<xs.length:=List.length_pos_iff.2 k;exact⟨b,o,cap,e,aF (key 0 xs[0] (A1 i)).1,r.1,key⟩
def AHT:FSpec:=⟨[.val (.slice .str),.val .str],[.val .str],strings_Join,false⟩
theorem aI:FI Go.Proofs.Tryz.prog 114/\FunOK Go.Proofs.Tryz.prog 114 AHT:=by
 refine⟨IZ Tryz.func114 oh oh,FunOK.flat1 (t:=.str) rfl rfl (λd=>by rcases d with _|⟨_,_|⟨_,_⟩⟩<;>rfl) λw I v d L N E r D=>?_⟩;obtain⟨rfl,x,y,rfl,l,K⟩:=P7 E;obtain⟨rfl,M⟩:=JV K;obtain⟨⟨H,A⟩,D⟩:=O7 D;cases D;obtain⟨xs,sep⟩:List DX×DX:=v;have A:(Lib.join xs sep).length<=140737488355328:=A;have i:(Lib.join xs sep).length<=281474976710656:=oa
 rcases AHS l with⟨a,cap,rfl,q⟩|⟨b,o,cap,rfl,J,s,k⟩
 .have q:xs=[]:=q;subst q;have e:Lib.join [] sep=[]:=by simp[Lib.join,List.intercalate]
  refine⟨rfl,.string ⟨(Lib.join [] sep).toArray⟩,λw' I'=>LQ (NK i),?_⟩;rw[e];exact(Tryz.strings_Join_none a cap ⟨sep.toArray⟩ w).mono λe w' ⟨B,G⟩=>⟨B,SQ G⟩
 .refine⟨rfl,.string ⟨(Lib.join xs sep).toArray⟩,λw' I'=>LQ (NK i),?_⟩
  have t:(xs.map λx=>(⟨x.toArray⟩:ByteArray)).map (λb=>b.data.toList)=xs:=by
   rw[List.map_map];exact List.map_id _
  have:=Tryz.strings_Join b o cap (xs.map λx=>⟨x.toArray⟩) ⟨sep.toArray⟩ w (λj x l=>by
   rw[AV]at l;cases C:xs[j]? with
   |none=>rw[C]at l;cases l
   |some z=>rw[C]at l;cases l;exact(k j z C).1) J (by rw[AN];exact H) (by rw[AN];exact s) (by rw[t];exact A)
  rw[t,AN]at this;exact this.mono λe w' ⟨B,G⟩=>⟨B,G,λh=>ol⟩
theorem After.toBelow{gv:Nat->Prop}{I':Im}(h:After gv w I w' I')(d:∀b,¬gv b):Below w.heap.size w w':=
 ⟨h.os,h.tape,h.output,h.size,λb a=>h.heap b a (d b)⟩
theorem AHU(a:HY w I)(d:Below w.heap.size w w'):Ext w I w' I/\HY w' I:=by
 have e:Ext w I w' I:=⟨λb o h=>⟨h,by simp only[World.cell?,d.block b (a.1 b o h)]⟩,λb h=>⟨h,d.block b (a.2.1 b h)⟩⟩;exact⟨e,λb o h=>BC (a.1 b o h) d.size,λb h=>BC (a.2.1 b h) d.size,a.2.2.ext e⟩
theorem AHV{g:Nat}(h:FI P g):∀a w,(callFunc g a).run P w=.ok (.enter g a) w:=by
 obtain⟨fn,c,d,e,i⟩:=h;intro a w;have b:fn.name≠"runtime.NumGoroutine" :=by simpa using e
 simp[callFunc,d,b,i]
theorem AHW(p:Nat->Bool)(s:ByteArray):∀x∈Lib.goFieldsP p s,x.size<=s.size:=by
 intro x h;obtain⟨q,_,rfl⟩:=B1.1 h;rw[CZ];omega
noncomputable def AHX:FSpec:=⟨[.val .str,.hof false (.int .i32) .bool],[.val (.slice .str)],S0,false⟩
theorem AHY:FI Go.Proofs.Tryz.prog 281/\FunOK Go.Proofs.Tryz.prog 281 AHX:=by
 refine⟨IZ Tryz.func281 oh oh,FunOK.given λw I v H bs V G r k=>?_⟩;obtain⟨a1,vs,b1,b2,rfl,rfl,⟨a,rfl⟩,a2,rfl,rfl,g,K,z,q,hof⟩:=G;obtain⟨rfl,N⟩:=JV a;obtain rfl:=AB.1 z;obtain⟨s,F⟩:DX×(Int->Option Bool):=v;have k:S0 (s,F)=some r:=k;unfold S0 at k;obtain⟨⟨O,Q,R⟩,k⟩:=O7 k;cases k
 have X:PredGrows Tryz.prog g K (λr=>(F (r:Int)).getD false) w:=by
  intro W x a j;obtain⟨C,D⟩:=AHU V j;obtain⟨b,d⟩:=Q x a;have d:F (x:Int)=some b:=d;have:=hof W I C D (x:Int) [.int .i32 x] ⟨_,rfl,kW ⟨by show(-2147483648:Int)<=_;omega,by show _<=(2147483647:Int);omega⟩⟩ b d;refine this.mono λe Z ⟨rv,I'',k1,J,y,_⟩=>?_;have E:=AGw y;subst E;show e=.returned (.bool ((F (x:Int)).getD false))/\_;rw[d];exact⟨k1,After.toBelow J λ_ h=>h⟩
 have:=Any.strings_FieldsFunc_grows Tryz.lays229 g K (AHV q) (λr=>(F (r:Int)).getD false) ⟨s.toArray⟩ w (by rw[N5];exact O) X oh oh;refine⟨rfl,this.mono λe w' ⟨A,C,T,t,B⟩=>?_⟩;obtain⟨_,U|⟨M,cap,L,k1,J,y,k4,k5,k6,Y⟩⟩:=t
 .cases U.1
 .obtain⟨rfl,rfl⟩:A=M/\(Lib.goFieldsP (λr=>(F (r:Int)).getD false) ⟨s.toArray⟩).length=cap:=by injection k1 with e1 e2 e3;injection e1 with e1;injection e1 with e1;exact⟨e1,e3⟩
  refine⟨_,[_],λb o=>b=A,C,rfl,rfl,B,(λh=>ol),?_,LQ ?_⟩
  .rintro b o rfl;exact⟨T,yQ y⟩
  .have:=A4z (P:=Tryz.prog) (I:=I) (X:=λb o=>b=A) (xs:=(Lib.goFieldsP (λr=>(F (r:Int)).getD false) ⟨s.toArray⟩).map λb=>b.data.toList)
    (cap:=(Lib.goFieldsP (λr=>(F (r:Int)).getD false) ⟨s.toArray⟩).length) y (by rw[AN];exact AH _) (by rw[AN];exact R) ?_ ?_ (λo _=>rfl)
   .rw[AN]at this;exact this
   .intro i x a;rw[AV]at a;cases j:(Lib.goFieldsP (λr=>(F (r:Int)).getD false) ⟨s.toArray⟩)[i]? with
    |none=>rw[j]at a;cases a
    |some b=>
     rw[j]at a;cases a;have hi:=(A9.1 j).1;have:=congrArg (λl=>l[i]?) Y;simp only[B4,AV,j]at this;rw[if_pos oa]at this;simpa using this
   .intro x a;obtain⟨b,j,rfl⟩:=B1.1 a;have:=AHW _ ⟨s.toArray⟩ b j;rw[N5]at this;have e:b.data.toList.length=b.size:=rfl;rw[e];exact AT this N
theorem A51{el:TypeId}(h:Lay Tryz.prog (.agg GS) el):el=278:=by
 have a:((List.range Tryz.prog.types.size).all λi=>!(layB Tryz.prog (.agg GS)).1 i||Nat.beq i 278)=true:=oh
 have b:el<Tryz.prog.types.size:=ADV h.inf rfl;have d:=BV.1 a el (CN.2 b);have e:(layB Tryz.prog (.agg GS)).1 el=true:=h;rw[e]at d;exact A3 d
set_option maxHeartbeats 1000000 in
set_option maxRecDepth 100000 in
theorem AHZ(b:Nat)(w:World)(x:w.cell? ⟨b,0,none⟩=some (.pointer (some ⟨b,0,none⟩))):
 Calls Tryz.prog 241 #[.pointer (some ⟨b,0,none⟩)] w λe w'=>e=.returned (.tuple #[])/\w'=w:=by
 have a:Tryz.prog.follows .mixedOrders=true:=oh
 have k:=Tryz.underlying278;have h:=Tryz.isAgg278;have r:=Tryz.sizeOf278;have q:=Tryz.zeroValue278;have o:=run_underlying Tryz.underlying278;have t:=Tryz.underlying275;have d:=Tryz.isAgg275;have z:=Tryz.sizeOf275;have v:=Tryz.zeroValue275;have l:=run_underlying Tryz.underlying275;have y:=Tryz.underlying4;have s:=Tryz.isAgg4;have C:=Tryz.sizeOf4;have B:=Tryz.zeroValue4;have A:=run_underlying Tryz.underlying4;obtain⟨j,i,_⟩:=Option.map_eq_some_iff.1 (show(Tryz.prog.info? 278).map (·.size)=some 2 by kernel_rfl)
 go_enter Tryz.func241,Tryz.ntmps241
 go_wp2
 rw[Lib.run_neq_ptr_same w _ Tryz.underlying275 i]
 go_wp2
 go_end0
 exact⟨rfl,rfl⟩
set_option maxHeartbeats 1000000 in
set_option maxRecDepth 100000 in
theorem AH_(b:Nat)(w:World)(H:w.cell? ⟨b,0,none⟩=some (.pointer none))(h:w.shape? b=some (278,2))(r:w.frozen? ⟨b,0,none⟩=false):
 Calls Tryz.prog 241 #[.pointer (some ⟨b,0,none⟩)] w λe w'=>e=.returned (.tuple #[])/\w'=w.setCell ⟨b,0,none⟩ (.pointer (some ⟨b,0,none⟩)):=by
 obtain⟨j,k,a⟩:=Option.map_eq_some_iff.1 (show(Tryz.prog.info? 278).map (·.size)=some 2 by kernel_rfl);have d:Tryz.prog.follows .mixedOrders=true:=oh
 have x:=Tryz.underlying278;have q:=Tryz.isAgg278;have E:=Tryz.sizeOf278;have C:=Tryz.zeroValue278;have A:=run_underlying Tryz.underlying278;have s:=Tryz.underlying275;have o:=Tryz.isAgg275;have D:=Tryz.sizeOf275;have B:=Tryz.zeroValue275;have y:=run_underlying Tryz.underlying275;have I:=Tryz.underlying4;have G:=Tryz.isAgg4;have L:=Tryz.sizeOf4;have K:=Tryz.zeroValue4;have J:=run_underlying Tryz.underlying4;have t:=Tryz.underlying396;have i:=Tryz.isAgg396;have z:=Tryz.sizeOf396;have v:=Tryz.zeroValue396;have l:=run_underlying Tryz.underlying396
 go_enter Tryz.func241,Tryz.ntmps241
 go_wp2
 rw[Lib.run_to_unsafe w ⟨b,0,none⟩ Tryz.underlying275 Tryz.underlying396 k (by rw[a];decide) h (Nat.zero_lt_succ 1)];simp only[Result.andThen];rw[Oper.upon_value]
 go_wp2
 rw[run_callFunc_extern Tryz.func289 oh oh oh (e:=Extern.AbiNoEscape.same) oh];rw[Lib.run_noEscape];simp only[Result.andThen];rw[Oper.upon_value]
 go_wp2
 rw[Lib.run_from_unsafe w ⟨b,0,none⟩ Tryz.underlying396 Tryz.underlying275 k h oh];simp only[Result.andThen];rw[Oper.upon_value]
 go_wp2
 go_end0
 exact⟨rfl,rfl⟩
theorem A52{p q:Value}{el:TypeId}{fz:Nat×Nat}(h:w.heap[b]?=some (.cells cells el fz))(hc:cells.toList=[p,q]):
 w.cell? ⟨b,0,none⟩=some p/\w.cell? ⟨b,1,none⟩=some q:=by
 have:cells= #[p,q]:=by apply CA;exact hc
 subst this;exact⟨by simp only[World.cell?,h];rfl,by simp only[World.cell?,h];rfl⟩
set_option maxHeartbeats 2000000 in
set_option maxRecDepth 100000 in
theorem AHa(b g cap:Nat)(l:List UInt8)(w:World)(a:Array Value)(fz:Nat×Nat)(I:w.cell? ⟨b,1,none⟩=some (.slice (some ⟨g,0,none⟩) l.length cap))(o:l≠[])
 (r:w.heap[g]?=some (.cells a 5 fz))(i:l.length<=cap)(q:a.size=cap)(k:l.length<=281474976710656)(hx:∀(j:Nat) x,l[j]?=some x->a[j]?=some (.int .u8 x.toNat)):
 Calls Tryz.prog 163 #[.pointer (some ⟨b,0,none⟩)] w λe w'=>e=.returned (.string ⟨l.toArray⟩)/\w'=w.drew.freeze ⟨g,0,none⟩ l.length:=by
 have K:l.length≠0:=by simpa using o
 have c1:w.drew.cell? ⟨b,1,none⟩=some (.slice (some ⟨g,0,none⟩) l.length cap):=I
 have E:(Builtin.unsafeSliceData_ #[276] 357 #[.slice (some ⟨g,0,none⟩) l.length cap]).run Tryz.prog w.drew=.ok (.pointer (some ⟨g,0,none⟩)) w.drew:=
  Lib.run_unsafeSliceData_row _ _ _ _ _ _ oa
 have G:(Builtin.unsafeString_ #[357,3] 9 #[.pointer (some ⟨g,0,none⟩),.int .i64 l.length]).run Tryz.prog w.drew=.ok (.string ⟨l.toArray⟩) (w.drew.freeze ⟨g,0,none⟩ l.length):=by
  refine Lib.run_unsafeString_row w.drew 357 3 9 5 Tryz.underlying357 oh g a.size (by have d:w.drew.heap[g]?=some (.cells a 5 fz):=r;simp[World.shape?,d]) l o oa oa ?_;intro j x J;have d:w.drew.heap[g]?=some (.cells a 5 fz):=r;have H:(⟨g,0,none⟩:Addr).add j=⟨g,j,none⟩:=by simp[Addr.add];exact λh=>h.symm
  rw[H];simp only[World.cell?,d,hx j x J];rfl
 clear hx q r i k o;have s:Tryz.prog.follows .mixedOrders=true:=oh
 have N:=Tryz.underlying278;have D:=Tryz.isAgg278;have Y:=Tryz.sizeOf278;have V:=Tryz.zeroValue278;have R:=run_underlying Tryz.underlying278;have M:=Tryz.underlying275;have C:=Tryz.isAgg275;have X:=Tryz.sizeOf275;have U:=Tryz.zeroValue275;have Q:=run_underlying Tryz.underlying275;have L:=Tryz.underlying276;have B:=Tryz.isAgg276;have W:=Tryz.sizeOf276;have T:=Tryz.zeroValue276;have O:=run_underlying Tryz.underlying276;have v:=Tryz.underlying357;have t:=Tryz.isAgg357;have A:=Tryz.sizeOf357;have z:=Tryz.zeroValue357;have y:=run_underlying Tryz.underlying357;have t3:=Tryz.underlying3;have Z:=Tryz.isAgg3;have z3:=Tryz.sizeOf3;have v3:=Tryz.zeroValue3;have u3:=run_underlying Tryz.underlying3;have t9:=Tryz.underlying9;have a9:=Tryz.isAgg9;have z9:=Tryz.sizeOf9;have v9:=Tryz.zeroValue9;have u9:=run_underlying Tryz.underlying9;have t5:=Tryz.underlying5;have a5:=Tryz.isAgg5;have z5:=Tryz.sizeOf5;have v5:=Tryz.zeroValue5;have u5:=run_underlying Tryz.underlying5
 go_enter Tryz.func163,Tryz.ntmps163
 go_wp2
 go_region_o
 all_goals (go_wp2;go_ret;exact⟨rfl,rfl⟩)
set_option maxHeartbeats 2000000 in
set_option maxRecDepth 100000 in
theorem AHb(b g:Nat)(w:World)(a:Array Value)(fz:Nat×Nat)(h:w.cell? ⟨b,1,none⟩=some (.slice (some ⟨g,0,none⟩) 0 0))(C:w.heap[g]?=some (.cells a 5 fz)):
 Calls Tryz.prog 163 #[.pointer (some ⟨b,0,none⟩)] w λe w'=>e=.returned (.string ⟨#[]⟩)/\Below w.heap.size w w':=by
 have B:∀(W:World) (q:Option Addr),(Builtin.unsafeString_ #[357,3] 9 #[.pointer q,.int .i64 0]).run Tryz.prog W=.ok (.string .empty) W:=λW q=>Lib.run_unsafeString_none W _ _ _ q;have i:=aF h;have V:w.drew.cell? ⟨b,1,none⟩=some (.slice (some ⟨g,0,none⟩) 0 0):=h
 have A:(Builtin.unsafeSliceData_ #[276] 357 #[.slice (some ⟨g,0,none⟩) 0 0]).run Tryz.prog w.drew=.ok (.pointer (some ⟨w.drew.heap.size,0,none⟩)) (w.drew.alloc (.view ⟨g,0,none⟩ 5)):=
  Lib.run_unsafeSliceData_zero w.drew _ _ 5 Tryz.underlying357 ⟨g,0,none⟩ 0 (5,a.size) (by have d:w.drew.heap[g]?=some (.cells a 5 fz):=C;simp[World.shape?,d])
 have l:Below w.heap.size w (w.drew.alloc (.view ⟨g,0,none⟩ 5)):=(Below.drew (Below.refl _ w)).alloc (AH _) _;have y:(w.drew.alloc (.view ⟨g,0,none⟩ 5)).cell? ⟨b,1,none⟩=some (.slice (some ⟨g,0,none⟩) 0 0):=(l.cell i).trans h;have X:(w.alloc (.view ⟨g,0,none⟩ 5)).drew.cell? ⟨b,1,none⟩=some (.slice (some ⟨g,0,none⟩) 0 0):=y;have j:Tryz.prog.follows .mixedOrders=true:=oh
 have G:=Tryz.underlying278;have x:=Tryz.isAgg278;have Q:=Tryz.sizeOf278;have M:=Tryz.zeroValue278;have J:=run_underlying Tryz.underlying278;have E:=Tryz.underlying275;have s:=Tryz.isAgg275;have O:=Tryz.sizeOf275;have L:=Tryz.zeroValue275;have I:=run_underlying Tryz.underlying275;have D:=Tryz.underlying276;have r:=Tryz.isAgg276;have N:=Tryz.sizeOf276;have K:=Tryz.zeroValue276;have H:=run_underlying Tryz.underlying276;have t:=Tryz.underlying357;have k:=Tryz.isAgg357;have z:=Tryz.sizeOf357;have v:=Tryz.zeroValue357;have o:=run_underlying Tryz.underlying357;have Y:=Tryz.underlying3;have R:=Tryz.isAgg3;have z3:=Tryz.sizeOf3;have v3:=Tryz.zeroValue3;have u3:=run_underlying Tryz.underlying3;have t9:=Tryz.underlying9;have U:=Tryz.isAgg9;have z9:=Tryz.sizeOf9;have v9:=Tryz.zeroValue9;have u9:=run_underlying Tryz.underlying9;have Z:=Tryz.underlying5;have T:=Tryz.isAgg5;have z5:=Tryz.sizeOf5;have v5:=Tryz.zeroValue5;have u5:=run_underlying Tryz.underlying5
 go_enter Tryz.func163,Tryz.ntmps163
 go_wp2
 go_region_o
 all_goals (go_wp2;go_ret;exact⟨rfl,l⟩)
theorem After.only(d:HY w I){bs:List Nat}(s:b∈bs)(q:∀o,¬I.cell b o)(r:¬I.obj b)(a:∀k,k≠b->w'.heap[k]?=w.heap[k]?)(j:w'.heap.size=w.heap.size)
 (i:w'.os=w.os)(v:w'.tape=w.tape)(t:w'.output=w.output):After (·∈bs) w I w' I:=by
 have l:Ext w I w' I:=⟨λk o h=>⟨h,by simp only[World.cell?,a k (λe=>q o (e▸h))]⟩,λk h=>⟨h,a k (λe=>r (e▸h))⟩⟩;exact⟨l,λk _ hk=>a k (λe=>hk (e▸s)),Nat.le_of_eq j.symm,λ_ _ h=>.inl h,λ_ h=>.inl h,λk o h=>j▸d.1 k o h,λk h=>j▸d.2.1 k h,i,v,t,d.2.2.ext l⟩
theorem AHc{o:Nat}{k:Nat}(h:k≠b):(w.setCell ⟨b,o,none⟩ v).heap[k]?=w.heap[k]?:=Below.heap_setCell w ⟨b,o,none⟩ v k h
def AHd:FSpec:=⟨[.bld 5 false],[],YF,false⟩
theorem A53:FI Go.Proofs.Tryz.prog 241/\FunOK Go.Proofs.Tryz.prog 241 AHd:=by
 refine⟨IZ Tryz.func241 oh oh,λw I v M bs J s o r V=>?_⟩;cases V;obtain⟨v1,rfl,b,cells,el,p,q,a,Q,rfl,t,d,y,U,z,A,B⟩:=s;obtain rfl:=AB.1 Q;obtain rfl:=A51 d;obtain⟨c0,c1⟩:=A52 t y;have l:=B9.1 o;rcases U with rfl|rfl
 .have s:w.shape? b=some (278,2):=by
   have:cells.size=2:=by rw[<-BF,y];rfl
   simp[World.shape?,t,this]
  refine(AH_ b w c0 s (by simp[World.frozen?,t])).mono λe w' ⟨E,j⟩=>?_;have H:∀k,k≠b->w'.heap[k]?=w.heap[k]?:=λk hk=>by rw[j];exact AHc hk
  have N:w'.heap.size=w.heap.size:=by rw[j];simp[World.setCell]
  have D:w'.heap[b]?=some (.cells #[.pointer (some ⟨b,0,none⟩),q] 278 (0,0)):=by
   have T:cells= #[.pointer none,q]:=by apply CA;exact y
   subst T;rw[j];simp only[World.setCell,Array.getElem?_modify,t];simp
  refine⟨_,[],I,b::a,E,rfl,rfl,After.only J AL z A H N (by rw[j];rfl) (by rw[j];rfl) (by rw[j];rfl),?_,o,λb C=>.inl C,λh=>ol⟩;refine⟨_,rfl,b,_,278,_,q,a,rfl,rfl,D,d,rfl,.inr rfl,z,A,?_⟩;rcases B with B|⟨g,cap,R,k1,O,X,⟨fz,Y,L⟩,Z,k6,k7,k8⟩
  .exact .inl B
  .have G:g≠b:=by rw[O]at l;intro e;exact l.1 (by rw[e];exact List.mem_singleton_self _)
   refine .inr ⟨g,cap,R,k1,O,X,⟨fz,(H g G).trans Y,L⟩,Z,?_,k7,k8⟩;have W:Ext w I w' I:=(After.only J (bs:=b::a) AL z A H N (by rw[j];rfl) (by rw[j];rfl) (by rw[j];rfl)).ext;exact λi x K=>(k6 i x K).ext W
 .refine(AHZ b w c0).mono λe w' ⟨E,j⟩=>?_;subst j;refine⟨_,[],I,b::a,E,rfl,rfl,After.refl J,?_,o,λb C=>.inl C,λh=>ol⟩;exact⟨_,rfl,b,cells,278,_,q,a,rfl,rfl,t,d,y,.inr rfl,z,A,B⟩
theorem AHe{k:Nat}(h:k≠b):(w.freeze ⟨b,0,none⟩ n).heap[k]?=w.heap[k]?:=by
 unfold World.freeze;split
 .rfl
 .simp only[Array.getElem?_modify];rw[if_neg (λe=>h e.symm)]
theorem AHf{a:Addr}:(w.freeze a n).heap.size=w.heap.size:=by
 unfold World.freeze;split
 .rfl
 .simp
theorem AHg{a:Addr}:(w.freeze a n).os=w.os/\(w.freeze a n).tape=w.tape/\(w.freeze a n).output=w.output:=by
 unfold World.freeze;split<;>exact⟨rfl,rfl,rfl⟩
theorem AHh{xs:List Int}(h:∀x∈xs,GK .u8 x):xs=FL (HA xs):=by
 unfold FL HA;rw[List.map_map];conv=>lhs;rw[<-List.map_id xs]
 refine List.map_congr_left λx a=>?_;have b:0<=x/\x<=255:=h x a;show x=((UInt8.ofNat x.toNat).toNat:Int);rw[UInt8.toNat_ofNat'];omega
def AHi:FSpec:=⟨[.bld 5 true],[.val .str],O8,false⟩
theorem SS:FI Go.Proofs.Tryz.prog 163/\FunOK Go.Proofs.Tryz.prog 163 AHi:=by
 refine⟨IZ Tryz.func163 oh oh,λw I v R bs X K J r hr=>?_⟩;cases hr;obtain⟨v1,rfl,b,cells,el,p,q,y,z,rfl,G,B,V,hp,h4,h5,h6⟩:=K;obtain rfl:=AB.1 z;obtain rfl:=A51 B;obtain⟨c0,T⟩:=A52 G V;have Y:=B9.1 J;have o:cells= #[p,q]:=by apply CA;exact V
 subst o
 have a:∀(w':World) (e:Ending),(show List Int from v)=[]->e=.returned (.string ⟨#[]⟩)->Below w.heap.size w w'->∃rv Q I' d,e=.returned rv/\Q.length=1/\KN Q rv/\After (·∈b::y) w I w' I'/\
  ShL Tryz.prog w' I' [.val .str] (HA v) (Q++[]) d/\d.Nodup/\(∀k∈d,k∈b::y\/w.heap.size<=k)/\(false=true->w.drawn<=w'.drawn):=by
  intro w' e L s i;refine⟨_,[_],VO I QP,[],s,rfl,rfl,(After.below X i SP).mono (λk hk=>by cases hk),?_,.nil,(λk hk=>by cases hk),λh=>ol⟩;have:HA v=[]:=by have L:v=([]:List Int):=L;rw[L];rfl
  rw[this];exact LQ (NK (x:=[]) oi)
 rcases h6 with⟨rfl,k1,Z⟩|⟨g,cap,A,rfl,Z,D,⟨fz,k4,h3⟩,O,k6,k7,k8⟩
 .exact(Any.Builder_String_nil Tryz.lays169 Tryz.Builder_Extra_169 w.heap.size b p w G).mono λe w' ⟨s,i⟩=>a w' e k1 s i
 .obtain⟨xs,N⟩:∃xs:List Int,xs=v:=⟨v,rfl⟩;subst N;have D:HS xs.length cap:=D;have O:A.size=cap:=by rw[O];exact CW _
  by_cases U:xs=[]
  .subst U;by_cases W:cap=0
   .subst W;exact(AHb b g w A fz T k4).mono λe w' ⟨s,i⟩=>a w' e rfl s i
   .exact(Any.Builder_String_room Tryz.lays169 Tryz.Builder_Extra_169 w.heap.size b g cap p w W G).mono λe w' ⟨s,i⟩=>a w' e rfl s i
  .have t:∀(j:Nat) x,xs[j]?=some x->A[j]?=some (.int .u8 x)/\GK .u8 x:=by
    intro j x M;obtain⟨z,e2⟩:=k6 j x M;refine⟨?_,e2⟩;have z:((A.toList.drop (j*1)).take 1)=[.int .u8 x]:=z;have:=congrArg (λl=>l[0]?) z;simpa using this
   have hk:∀x∈xs,GK .u8 x:=λx M=>let ⟨j,H⟩:=C6 M;(t j x H).2
   have i:xs=FL (HA xs):=AHh hk;have E:(HA xs).length=xs.length:=by simp[HA]
   refine(AHa b g cap (HA xs) w A fz (by rw[E];exact T) (λe=>U (by rw[i,e];rfl)) k4 (by rw[E];exact D.1) O (by rw[E];exact D.2) (λj x H=>?_)).mono λe w' ⟨s,C⟩=>?_
   .have:xs[j]?=some (x.toNat:Int):=by rw[i];simp[FL,H]
    exact(t j _ this).1
   .obtain⟨o1,o2,o3⟩:=AHg (w:=w.drew) (a:=⟨g,0,none⟩) (n:=(HA xs).length);refine⟨_,[_],I,[],s,rfl,rfl,After.only X (b:=g) (by rw[Z];simp) k7 k8 (λk hk=>by rw[C];exact AHe hk) (by rw[C];exact AHf) (by rw[C];exact o1) (by rw[C];exact o2) (by rw[C];exact o3),?_,.nil,(λk hk=>by cases hk),λh=>ol⟩;exact LQ (NK (by rw[E];exact D.2))
open Go.Proofs Go.RowKit Go.Sort Go.Shelf
structure StrAt(w:World)(I:Im)(el:Nat)(xs:List DX)(b cap:Nat)(cells:Array Value):Prop where
 len:HS xs.length cap
 row:RowAt w b cells el
 sz:cells.size=cap*1
 rows:RowsOK w I .str xs cells.toList
 noC:∀o,¬I.cell b o
 noO:¬I.obj b
theorem StrAt.get(h:StrAt w I el xs b cap cells)(j:Nat)(i:j<xs.length):
 cells[j]?=some (encStr xs[j])/\xs[j].length<=281474976710656:=by
 obtain⟨a,d⟩:=h.rows j xs[j] (A1 i);refine⟨?_,d⟩;have a:(cells.toList.drop (j*1)).take 1=[encStr xs[j]]:=a;rw[CW]at a;have e:=congrArg (λl:List Value=>l[0]?) a;simpa using e
theorem StrAt.holds(h:StrAt w I el xs b cap cells):Holds encStr w b 0 xs.toArray:=by
 intro j a;have a:j<xs.length:=by simpa using a
 obtain⟨e,_⟩:=h.get j a;have k:j<cells.size:=(BO.1 e).1;obtain⟨fz,i,d⟩:=h.row;refine⟨?_,?_⟩
 .simp only[World.cell?,i,C4];simp[e,a]
 .simp only[World.frozen?,i,C4];rcases d with h|h
  .simp;omega
  .simp;omega
theorem StrAt.put(h:StrAt w I el xs b cap cells)(r:HY w I)(ys x:List DX)(R:ys.length=xs.length)
 (M:∀(i:Nat) (z:DX),x[i]?=some z->ys[i]?=some z)(Q:∀y∈x,y.length<=281474976710656){os:Array Go.Obj}(a:w'=grow (putRow encStr (Sort.ahead w n) b 0 ys.toArray) os):
 After (·∈[b]) w I w' I/\StrAt w' I el x b cap (putCells encStr 0 ys.toArray cells)/\w.drawn<=w'.drawn:=by
 obtain⟨fz,d,C⟩:=h.row;have H:b<w.heap.size:=(BO.1 d).1
 have O:w'.heap[b]?=some (.cells (putCells encStr 0 ys.toArray cells) el fz):=by
  rw[a,kX _ _ _ (by simpa using H)];exact A4t encStr _ b 0 _ d
 have A:∀j,j≠b->j<w.heap.size->w'.heap[j]?=w.heap[j]?:=λj E G=>by
  rw[a,kX _ _ _ (by simpa using G)];exact A4s encStr _ b 0 _ j E
 have B:w.heap.size<=w'.heap.size:=by rw[a];simp
 have t:(putCells encStr 0 ys.toArray cells).size=cells.size:=by simp[putCells]
 have N:Ext w I w' I:=⟨λj o k=>⟨k,by simp only[World.cell?,A j (λe=>h.noC o (e▸k)) (r.1 j o k)]⟩,λj s=>⟨s,A j (λe=>h.noO (e▸s)) (r.2.1 j s)⟩⟩
 have v:x.length<=xs.length:=by
  rw[<-R];apply C0;intro L;have J:=M ys.length (x[ys.length]'(oa)) (A1 _);rw[BY (AH _)]at J;cases J
 refine ⟨⟨N,λj E L=>A j (λe=>L (by rw [e]; simp)) E,B,λ_ _ h=>.inl h,λ_ h=>.inl h,λj o k=>BC (r.1 j o k) B,λj s=>BC (r.2.1 j s) B,by rw [a]; rfl,by rw [a]; rfl,by rw [a]; rfl,r.2.2.ext N⟩,
  ⟨⟨AT v h.len.1,AT v h.len.2⟩,⟨fz,O,by rw[t];exact C⟩,by rw[t];exact h.sz,?_,h.noC,h.noO⟩,by rw[a];exact Nat.le_add_right _ _⟩
 intro i z K;have l:=M i z K;have q:i<ys.length:=(A9.1 l).1;have D:i<cells.size:=by rw[h.sz,CW];have:=h.len.1;omega
 refine⟨?_,Q z (AI K)⟩
 have T:(ys.toArray)[i]! =z:=by
  rw[getElem!_pos _ i (by simpa using q)];have:=(A9.1 l).2;simpa using this
 show((putCells encStr 0 ys.toArray cells).toList.drop (i*1)).take 1=[encStr z];rw[CW];apply BI;intro c;cases c with
 |zero=>
  rw[B4,if_pos oa,B5,BT];simp only[putCells,Array.getElem?_mapIdx,CT];rw[B7 D];simp only[BH];rw[if_pos ⟨BJ _,by simpa using q⟩,Nat.sub_zero,T];rfl
 |succ c=>rw[BY om,BY oe]
theorem StrAt.of{bs:List Nat}(h:GE Tryz.prog w I (.own el .str true) xs [v] bs):
 (v=.slice none 0 0/\xs=[]/\bs=[])\/∃b cap cells,v=.slice (some ⟨b,0,none⟩) xs.length cap/\bs=[b]/\StrAt w I el xs b cap cells:=by
 rcases h with⟨e,a,d⟩|⟨b,cap,cells,e,a,i,j,k,l,o,_,q⟩
 .exact .inl ⟨AB.1 e,a,d⟩
 .exact .inr ⟨b,cap,cells,AB.1 e,a,i,j,k,l,o rfl,q⟩
theorem StrAt.own(h:StrAt w I el xs b cap cells):
 GE Tryz.prog w I (.own el .str true) xs [.slice (some ⟨b,0,none⟩) xs.length cap] [b]:=
 .inr ⟨b,cap,cells,rfl,rfl,h.len,h.row,h.sz,h.rows,λ_=>h.noC,λe=>(by cases e),h.noO⟩
theorem StrAt.io(h:StrAt w I el xs b cap cells):
 GE Tryz.prog w I (.io el .str) xs [.slice (some ⟨b,0,none⟩) xs.length cap] [b]:=
 .inr ⟨b,cap,cells,rfl,rfl,h.len,h.row,h.sz,h.rows,λ_=>h.noC,λe=>(by cases e),h.noO⟩
theorem StrAt.all(h:StrAt w I el xs b cap cells):∀y∈xs,y.length<=281474976710656:=by
 intro y d;obtain⟨i,a,rfl⟩:=CP d;exact(h.get i a).2
def AHj:FSpec:=⟨[.io 9 .str],[],slices_Sort_string,true⟩
theorem AHk:FI Go.Proofs.Tryz.prog 78/\FunOK Go.Proofs.Tryz.prog 78 AHj:=by
 refine⟨IZ Tryz.func78 oh oh,λw I v B G D t N r k=>?_⟩;obtain⟨a,rfl,q⟩:=t;have q:GE Tryz.prog w I (.own 9 .str true) v [a] G:=q;have k:r=(show List DX from v).mergeSort λx y=>decide (x<=y):=(A2 k).symm;rcases StrAt.of q with⟨rfl,A,rfl⟩|⟨b,cap,cells,rfl,rfl,l⟩
 .refine(Tryz.slices_Sort_string_none none 0 w).mono λe w' ⟨s,o⟩=>?_;subst o;have A:v=([]:List DX):=A;subst A;have:r=([]:List DX):=k.trans List.mergeSort_nil;subst this;exact⟨_,[],I,[],s,rfl,rfl,After.refl D,⟨_,rfl,.inl ⟨rfl,rfl,rfl⟩⟩,B3,λb L=>.inl L,λ_=>AH _⟩
 .have d:(show List DX from r).length=(show List DX from v).length:=by rw[k];exact List.length_mergeSort _
  refine(Tryz.slices_Sort_string b 0 cap v w l.holds l.row.lt (Nat.lt_of_le_of_lt l.len.2 oi)).mono λe w' ⟨s,n,os,o⟩=>?_;rw[<-k]at o;obtain⟨H,J,K⟩:=l.put D r r d (λi z h=>h) (λy E=>l.all y (by rw[k]at E;exact(List.mergeSort_perm _ _).mem_iff.1 E)) o;refine⟨_,[],I,[b],s,rfl,rfl,H,⟨_,rfl,?_⟩,oe,λj M=>.inl M,λ_=>K⟩;have C:=J.io;rw[d]at C;exact C
theorem AHl(xs:List DX):(Lib.compact xs).length<=xs.length:=by
 unfold Lib.compact Lib.compactUpTo;rw[AN];exact AT (B8 _ _) oe
theorem AHm(xs:List DX):∀y∈Lib.compact xs,y∈xs:=by
 intro y a;unfold Lib.compact Lib.compactUpTo at a;obtain⟨j,h,rfl⟩:=B1.1 a;have h:j<xs.length:=CN.1 (BM.1 h).1;have:(xs.toArray)[j]! =xs[j]:=by rw[getElem!_pos _ j (by simpa using h)];simp
 rw[this];exact AU h
theorem AHn{α:Type}{a c:List α}(i:Nat)(z:α)(h:a[i]?=some z):(a++c)[i]?=some z:=by
 rw[C1 (A9.1 h).1,h]
theorem StrAt.cut(h:StrAt w I el xs b cap cells)(l:HY w I)(a:List DX)(s:a.length<=xs.length)(o:∀z∈a,z∈xs)
 (q:w'=putRow encStr (Sort.ahead w n) b 0 (a++List.replicate (xs.length-a.length) ([]:DX)).toArray):
 After (·∈[b]) w I w' I/\GE Tryz.prog w' I (.own el .str true) a [.slice (some ⟨b,0,none⟩) a.length cap] [b]/\w.drawn<=w'.drawn:=by
 obtain⟨d,e,j⟩:=h.put l (a++List.replicate (xs.length-a.length) ([]:DX)) a (by rw[AE,BN];omega) (λi z k=>AHn i z k) (λy r=>h.all y (o y r)) (n:=n) (os:=#[]) (q.trans (grow_empty _).symm);exact⟨d,e.own,j⟩
def AHo:FSpec:=⟨[.own 9 .str true],[.own 9 .str true],slices_Compact_string,true⟩
theorem AHp:FI Go.Proofs.Tryz.prog 79/\FunOK Go.Proofs.Tryz.prog 79 AHo:=by
 refine⟨IZ Tryz.func79 oh oh,λw I v s y t o E r h=>?_⟩;obtain⟨a,rfl,k⟩:=o;have k:GE Tryz.prog w I (.own 9 .str true) v [a] y:=k;have h:r=Lib.compact (show List DX from v):=(A2 h).symm;rcases StrAt.of k with⟨rfl,q,rfl⟩|⟨b,cap,cells,rfl,rfl,l⟩
 .refine(Tryz.slices_Compact_string_empty none 0 w).mono λe w' ⟨d,i⟩=>?_;subst i;have q:v=([]:List DX):=q;subst q;have:r=([]:List DX):=by rw[h];rfl
  subst this;exact⟨_,[_],I,[],d,rfl,rfl,After.refl t,⟨_,rfl,.inl ⟨rfl,rfl,rfl⟩⟩,B3,λb C=>.inl C,λ_=>AH _⟩
 .have x:=l.len;refine(Tryz.slices_Compact_string b 0 cap v w l.holds (AT x.2 oi) x.1).mono λe w' ⟨d,n,i⟩=>?_;rw[<-h]at d i;obtain⟨z,A,B⟩:=l.cut t r (by rw[h];exact AHl _) (by rw[h];exact AHm _) i;exact⟨_,[_],I,[b],d,rfl,rfl,z,⟨_,rfl,A⟩,oe,λj D=>.inl D,λ_=>B⟩
end Go.Ev.Pv
namespace Go.Proofs
open Tryz
open Go.Shelf
def Tryz.sort263_ren:Go.Shelf.Ren:=⟨λ|6=>263|15=>135|14=>305|28=>188|29=>189|20=>333|21=>334|22=>335|23=>336|24=>337|25=>338|26=>339|27=>340|46=>360|47=>251|48=>252|49=>361|50=>362|57=>374|n=>n,λ|22=>247|24=>337|25=>375|3=>3|39=>238|0=>0|53=>309|55=>311|4=>4|46=>302|45=>301|50=>129|5=>5|9=>9|66=>365|70=>369|76=>410|77=>408|n=>n,λ|n=>n⟩
theorem Tryz.sort263:Go.Proofs.SlLaysF0.n6 Tryz.prog Tryz.sort263_ren:={
 mixed:=oh
 f6:=⟨Tryz.f263.name,oi,fk func263⟩
 f14:=⟨Tryz.f305.name,oi,fk func305⟩
 f15:=fk func135
 f20:=⟨Tryz.f333.name,oi,fk func333⟩
 f21:=⟨Tryz.f334.name,oi,fk func334⟩
 f22:=⟨Tryz.f335.name,oi,fk func335⟩
 f23:=⟨Tryz.f336.name,oi,fk func336⟩
 f24:=⟨Tryz.f337.name,oi,fk func337⟩
 f25:=⟨Tryz.f338.name,oi,fk func338⟩
 f26:=⟨Tryz.f339.name,oi,fk func339⟩
 f27:=⟨Tryz.f340.name,oi,fk func340⟩
 f28:=fk func188
 f29:=fk func189
 f46:=⟨Tryz.f360.name,oi,fk func360⟩
 f47:=fk func251
 f48:=fk func252
 f49:=⟨Tryz.f361.name,oi,fk func361⟩
 f50:=⟨Tryz.f362.name,oi,fk func362⟩
 f57:=⟨Tryz.f374.name,oi,fk func374⟩
 t0:=underlying0
 a0:=isAgg0
 z0:=sizeOf0
 v0:=zeroValue0
 t3:=underlying3
 a3:=isAgg3
 z3:=sizeOf3
 v3:=zeroValue3
 t4:=underlying4
 a4:=isAgg4
 z4:=sizeOf4
 v4:=zeroValue4
 t5:=underlying5
 a5:=isAgg5
 z5:=sizeOf5
 v5:=zeroValue5
 t9:=underlying9
 a9:=isAgg9
 z9:=sizeOf9
 v9:=zeroValue9
 t22:=underlying247
 a22:=isAgg247
 z22:=sizeOf247
 v22:=zeroValue247
 t25:=underlying375
 a25:=isAgg375
 z25:=sizeOf375
 v25:=zeroValue375
 t39:=underlying238
 a39:=isAgg238
 z39:=sizeOf238
 v39:=zeroValue238
 t45:=underlying301
 a45:=isAgg301
 z45:=sizeOf301
 v45:=zeroValue301
 t46:=underlying302
 a46:=isAgg302
 z46:=sizeOf302
 v46:=zeroValue302
 t50:=underlying129
 a50:=isAgg129
 z50:=sizeOf129
 v50:=zeroValue129
 t53:=underlying309
 a53:=isAgg309
 z53:=sizeOf309
 v53:=zeroValue309
 t55:=underlying311
 a55:=isAgg311
 z55:=sizeOf311
 v55:=zeroValue311
 t66:=underlying365
 a66:=isAgg365
 z66:=sizeOf365
 v66:=zeroValue365
 t70:=underlying369
 a70:=isAgg369
 z70:=sizeOf369
 v70:=zeroValue369
 t76:=underlying410
 a76:=isAgg410
 z76:=sizeOf410
 v76:=zeroValue410
 t77:=underlying408
 a77:=isAgg408
 z77:=sizeOf408
 v77:=zeroValue408}
def Tryz.sort90_ren:Go.Shelf.Ren:=⟨λ|6=>90|15=>135|14=>144|28=>188|29=>189|20=>203|21=>204|22=>205|23=>206|24=>207|25=>208|26=>209|27=>210|46=>267|47=>251|48=>252|49=>268|50=>269|57=>311|n=>n,λ|22=>120|24=>123|25=>195|3=>3|39=>238|0=>0|53=>309|55=>311|4=>4|46=>302|45=>301|50=>129|5=>5|9=>9|66=>365|70=>369|76=>410|77=>408|n=>n,λ|n=>n⟩
theorem Tryz.sort90:Go.Proofs.SlLaysF0.n6 Tryz.prog Tryz.sort90_ren:={
 mixed:=oh
 f6:=⟨Tryz.f90.name,oi,fk func90⟩
 f14:=⟨Tryz.f144.name,oi,fk func144⟩
 f15:=fk func135
 f20:=⟨Tryz.f203.name,oi,fk func203⟩
 f21:=⟨Tryz.f204.name,oi,fk func204⟩
 f22:=⟨Tryz.f205.name,oi,fk func205⟩
 f23:=⟨Tryz.f206.name,oi,fk func206⟩
 f24:=⟨Tryz.f207.name,oi,fk func207⟩
 f25:=⟨Tryz.f208.name,oi,fk func208⟩
 f26:=⟨Tryz.f209.name,oi,fk func209⟩
 f27:=⟨Tryz.f210.name,oi,fk func210⟩
 f28:=fk func188
 f29:=fk func189
 f46:=⟨Tryz.f267.name,oi,fk func267⟩
 f47:=fk func251
 f48:=fk func252
 f49:=⟨Tryz.f268.name,oi,fk func268⟩
 f50:=⟨Tryz.f269.name,oi,fk func269⟩
 f57:=⟨Tryz.f311.name,oi,fk func311⟩
 t0:=underlying0
 a0:=isAgg0
 z0:=sizeOf0
 v0:=zeroValue0
 t3:=underlying3
 a3:=isAgg3
 z3:=sizeOf3
 v3:=zeroValue3
 t4:=underlying4
 a4:=isAgg4
 z4:=sizeOf4
 v4:=zeroValue4
 t5:=underlying5
 a5:=isAgg5
 z5:=sizeOf5
 v5:=zeroValue5
 t9:=underlying9
 a9:=isAgg9
 z9:=sizeOf9
 v9:=zeroValue9
 t22:=underlying120
 a22:=isAgg120
 z22:=sizeOf120
 v22:=zeroValue120
 t25:=underlying195
 a25:=isAgg195
 z25:=sizeOf195
 v25:=zeroValue195
 t39:=underlying238
 a39:=isAgg238
 z39:=sizeOf238
 v39:=zeroValue238
 t45:=underlying301
 a45:=isAgg301
 z45:=sizeOf301
 v45:=zeroValue301
 t46:=underlying302
 a46:=isAgg302
 z46:=sizeOf302
 v46:=zeroValue302
 t50:=underlying129
 a50:=isAgg129
 z50:=sizeOf129
 v50:=zeroValue129
 t53:=underlying309
 a53:=isAgg309
 z53:=sizeOf309
 v53:=zeroValue309
 t55:=underlying311
 a55:=isAgg311
 z55:=sizeOf311
 v55:=zeroValue311
 t66:=underlying365
 a66:=isAgg365
 z66:=sizeOf365
 v66:=zeroValue365
 t70:=underlying369
 a70:=isAgg369
 z70:=sizeOf369
 v70:=zeroValue369
 t76:=underlying410
 a76:=isAgg410
 z76:=sizeOf410
 v76:=zeroValue410
 t77:=underlying408
 a77:=isAgg408
 z77:=sizeOf408
 v77:=zeroValue408}
def Tryz.sort83_ren:Go.Shelf.Ren:=⟨λ|6=>83|15=>135|14=>137|28=>188|29=>189|20=>192|21=>193|22=>194|23=>195|24=>196|25=>197|26=>198|27=>199|46=>256|47=>251|48=>252|49=>257|50=>258|57=>303|n=>n,λ|22=>45|24=>106|25=>184|3=>3|39=>238|0=>0|53=>309|55=>311|4=>4|46=>302|45=>301|50=>129|5=>5|9=>9|66=>365|70=>369|76=>410|77=>408|n=>n,λ|n=>n⟩
theorem Tryz.sort83:Go.Proofs.SlLaysF0.n6 Tryz.prog Tryz.sort83_ren:={
 mixed:=oh
 f6:=⟨Tryz.f83.name,oi,fk func83⟩
 f14:=⟨Tryz.f137.name,oi,fk func137⟩
 f15:=fk func135
 f20:=⟨Tryz.f192.name,oi,fk func192⟩
 f21:=⟨Tryz.f193.name,oi,fk func193⟩
 f22:=⟨Tryz.f194.name,oi,fk func194⟩
 f23:=⟨Tryz.f195.name,oi,fk func195⟩
 f24:=⟨Tryz.f196.name,oi,fk func196⟩
 f25:=⟨Tryz.f197.name,oi,fk func197⟩
 f26:=⟨Tryz.f198.name,oi,fk func198⟩
 f27:=⟨Tryz.f199.name,oi,fk func199⟩
 f28:=fk func188
 f29:=fk func189
 f46:=⟨Tryz.f256.name,oi,fk func256⟩
 f47:=fk func251
 f48:=fk func252
 f49:=⟨Tryz.f257.name,oi,fk func257⟩
 f50:=⟨Tryz.f258.name,oi,fk func258⟩
 f57:=⟨Tryz.f303.name,oi,fk func303⟩
 t0:=underlying0
 a0:=isAgg0
 z0:=sizeOf0
 v0:=zeroValue0
 t3:=underlying3
 a3:=isAgg3
 z3:=sizeOf3
 v3:=zeroValue3
 t4:=underlying4
 a4:=isAgg4
 z4:=sizeOf4
 v4:=zeroValue4
 t5:=underlying5
 a5:=isAgg5
 z5:=sizeOf5
 v5:=zeroValue5
 t9:=underlying9
 a9:=isAgg9
 z9:=sizeOf9
 v9:=zeroValue9
 t22:=underlying45
 a22:=isAgg45
 z22:=sizeOf45
 v22:=zeroValue45
 t25:=underlying184
 a25:=isAgg184
 z25:=sizeOf184
 v25:=zeroValue184
 t39:=underlying238
 a39:=isAgg238
 z39:=sizeOf238
 v39:=zeroValue238
 t45:=underlying301
 a45:=isAgg301
 z45:=sizeOf301
 v45:=zeroValue301
 t46:=underlying302
 a46:=isAgg302
 z46:=sizeOf302
 v46:=zeroValue302
 t50:=underlying129
 a50:=isAgg129
 z50:=sizeOf129
 v50:=zeroValue129
 t53:=underlying309
 a53:=isAgg309
 z53:=sizeOf309
 v53:=zeroValue309
 t55:=underlying311
 a55:=isAgg311
 z55:=sizeOf311
 v55:=zeroValue311
 t66:=underlying365
 a66:=isAgg365
 z66:=sizeOf365
 v66:=zeroValue365
 t70:=underlying369
 a70:=isAgg369
 z70:=sizeOf369
 v70:=zeroValue369
 t76:=underlying410
 a76:=isAgg410
 z76:=sizeOf410
 v76:=zeroValue410
 t77:=underlying408
 a77:=isAgg408
 z77:=sizeOf408
 v77:=zeroValue408}
end Go.Proofs
namespace Go.Ev.Pv
open Go.Proofs Go.Shelf
noncomputable def AHq:FSpec:=⟨[.io 337 (.agg (.prod (.agg (.prod (.int .i64) (.prod .str (.prod .bool .str)))) (.agg (.prod (.int .i64) (.prod .str (.prod .bool .str)))))),.hof true (.prod (.agg (.prod (.agg (.prod (.int .i64) (.prod .str (.prod .bool .str)))) (.agg (.prod (.int .i64) (.prod .str (.prod .bool .str)))))) (.agg (.prod (.agg (.prod (.int .i64) (.prod .str (.prod .bool .str)))) (.agg (.prod (.int .i64) (.prod .str (.prod .bool .str))))))) (.int .i64)],[],rD,true⟩
theorem AHr:FI Go.Proofs.Tryz.prog 263/\FunOK Go.Proofs.Tryz.prog 263 AHq:=
 ⟨IZ Tryz.func263 oh oh,yP Tryz.sort263 rfl Tryz.isAgg337 Tryz.sizeOf337 oi⟩
noncomputable def AHs:FSpec:=⟨[.io 123 (.agg (.prod (.int .i64) (.int .i64))),.hof true (.prod (.agg (.prod (.int .i64) (.int .i64))) (.agg (.prod (.int .i64) (.int .i64)))) (.int .i64)],[],rE,true⟩
theorem AHt:FI Go.Proofs.Tryz.prog 90/\FunOK Go.Proofs.Tryz.prog 90 AHs:=
 ⟨IZ Tryz.func90 oh oh,yP Tryz.sort90 rfl Tryz.isAgg123 Tryz.sizeOf123 oi⟩
noncomputable def AHu:FSpec:=⟨[.io 106 (.agg (.prod .str (.prod .str (.int .i64)))),.hof true (.prod (.agg (.prod .str (.prod .str (.int .i64)))) (.agg (.prod .str (.prod .str (.int .i64))))) (.int .i64)],[],rF,true⟩
theorem AHv:FI Go.Proofs.Tryz.prog 83/\FunOK Go.Proofs.Tryz.prog 83 AHu:=
 ⟨IZ Tryz.func83 oh oh,yP Tryz.sort83 rfl Tryz.isAgg106 Tryz.sizeOf106 oi⟩
end Go.Ev.Pv
