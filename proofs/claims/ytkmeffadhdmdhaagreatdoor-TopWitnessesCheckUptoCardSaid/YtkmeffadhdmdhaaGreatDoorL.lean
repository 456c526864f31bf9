/-
  Its next part.
-/
import Derived.Test.YtkmeffadhdmdhaaGreatDoorM
set_option linter.all false
set_option maxRecDepth 1000000
set_option maxHeartbeats 16000000
namespace Go.Ev.Pv
variable{s x word tx an ax:X3}{b k en g cap ab m sn sc:Nat}{w w' w'' w1 w2 w3 wx:X4}{v c d a' b' e:X2}{el:TypeId}{r r':RS}{l:KX UInt8}{S:Nat->Prop}{t:Tr}{vs:KX (KX X2)}{news:KX X2}{R:Nat->X4->Prop}{kind:Int}{FL:Except (Nat×Int) (KX Tr×RS)}{so:X1 Addr}{tmps:Array X2}{F:Except (Nat×Int) (Tr×RS)}
open Go.Proofs Go.RowKit
attribute [local irreducible] wpOpsS
open Go.Lib
def Wh(s:X3)(r:RS):Prop:=r.en<=s.size/\r.at_<=s.size
def ST{α:Type}(s:X3)(F:Except (Nat×Int) (α×RS)):Prop:=match F with
 | .ok (_,r)=>Wh s r
 | .error (a,_)=>a<=s.size
theorem A7I(h:en<=s.size):FE s.data.toList en<=s.size:=by have a:s.data.toList.length=s.size:=oh;grind[A0T]
theorem AKk{op:Int}(h:FV s en op=.ok r):r.at_=FE s.data.toList en:=by grind[FV]
theorem AKl{op:Int}{a:Nat}(h:FV s en op=.error a):a=FE s.data.toList en:=by grind[FV]
theorem XE{op:Int}(h:FV s en op=.ok r)(a:en<=s.size):Wh s r:=⟨NN h a,by rw[AKk h];exact A7I a⟩
theorem XF{op:Int}{a:Nat}(h:FV s en op=.error a)(b:en<=s.size):a<=s.size:=by rw[AKl h];exact A7I b
theorem A7J(h:Wh s r):ST s (J0 s word r):=by
 unfold J0;split
 .exact h
 .split
  .next a=>exact XE a h.1
  .next a=>exact XF a h.1
theorem A7K(h:Wh s r):ST s (J8 s r):=by
 unfold J8;split
 .exact h.2
 .split
  .next a=>exact XE a h.1
  .next a=>exact XF a h.1
theorem AKm(h:Wh s r):ST s (L_ s r):=by
 unfold L_;split
 .split
  .next a=>exact XF a h.1
  .next a=>exact XE a h.1
 .exact h
theorem AKn(h:Wh s r):ST s (K_ s r):=by
 have hi:=A7J (word:=⟨#[87,73,84,72]⟩) h;unfold K_;split
 .next a=>rw[a]at hi;exact hi
 .next a=>rw[a]at hi;exact hi
 .next a=>rw[a]at hi;exact A7K hi
theorem AKo(h:Wh s r):ST s (JJ s r):=by
 have b:=A7K h;unfold JJ;split
 .next a=>rw[a]at b;exact b
 .next n j a=>
  rw[a]at b;have d:=AKm (show Wh s j from b);split
  .next a=>rw[a]at d;exact d
  .next l m a=>
   rw[a]at d;have e:=AKn (show Wh s m from d);split
   .next a=>rw[a]at e;exact e
   .next a=>rw[a]at e;exact e
def PW(s:X3)(P:PF):Prop:=∀r F,Wh s r->P r=some F->ST s F
theorem A7L{j:PF}(l:PW s j):∀(m:Nat) (a:KX Tr) (r:RS) (F:Except (Nat×Int) (KX Tr×RS)),Wh s r->KI s word j m a r=some F->ST s F:=by
 intro m;induction m with
 |zero=>intro a r F h b;cases b
 |succ m p=>
  intro a r F h b;have e:=A7J (word:=word) h;unfold KI at b;split at b
  .next d=>rw[d]at e;cases b;exact e
  .next d=>rw[d]at e;cases b;exact e
  .next r' d=>
   rw[d]at e;split at b
   .cases b
   .next d=>cases b;exact l r' _ e d
   .next d=>exact p _ _ _ (l r' _ e d) b
theorem A0c{d:PF}(e:PW s d):PW s (J9 s kind word d m):=by
 intro r F h a;unfold J9 at a;split at a
 .cases a
 .next b=>cases a;exact e r _ h b
 .next t r' b=>
  have l:=e r _ h b;split at a
  .grind
  .split at a
   .cases a
   .next b=>cases a;have j:=A7L e m _ _ _ l b;exact j
   .next b=>cases a;have j:=A7L e m _ _ _ l b;exact j
theorem AKp{e:PF}(l:PW s e)(h:Wh s r)(a:OY s e r=some F):ST s F:=by
 unfold OY at a;split at a
 .cases a;exact h.2
 .split at a
  .next b=>cases a;exact XF b h.1
  .next m b=>
   have j:=XE b h.1;split at a
   .cases a
   .next b=>cases a;exact l m _ j b
   .next b=>
    have d:=l m _ j b;split at a
    .cases a;exact d.2
    .split at a
     .next b=>cases a;exact XF b d.1
     .next b=>cases a;exact XE b d.1
theorem AKq:∀d,PW s (N9 s m d):=by
 intro d;induction d with
 |zero=>intro r F h a;cases a
 |succ d b=>intro r F h a;grind[N9,AKp,A0c,AKo]
theorem AKr{a:Nat}{c:Int}{d:Nat}(h:NA s (QE s m d)=some (.error (a,c))):a<=s.size:=by
 have j:PW s (QE s m d):=A0c (A0c (AKq d));unfold NA at h;split at h
 .next b=>cases h;exact XF b (AT _)
 .next r b=>
  have e:=XE b (AT _);split at h
  .cases h
  .next b=>cases h;exact j r _ e b
  .next b=>
   have l:=j r _ e b;split at h
   .cases h;exact l.2
   .cases h
theorem A7M{t:X3}(h:KZ t=true):t.size<=140737488355328/\∀(j:Nat) (b:UInt8),t.data.toList[j]?=some b->b.toNat<128:=by
 have d:t.data.toList∈wordL:=by unfold KZ at h;rw[ByteArray.toList_eq]at h;exact List.contains_iff_mem.1 h
 have e:∀l∈wordL,l.length<=5/\∀b∈l,b.toNat<128:=oi;have⟨k1,m⟩:=e _ d;have a:t.data.toList.length=t.size:=oh;grind
theorem AKs:A6w:=λt W h=>(tq t W (A7M h).1 (A7M h).2).mono λe w' k=>k
theorem A0d:NM:=λb s r w d h a=>AKj AKs b s r.en r.k r.tx r.at_ r.tg r.op w d h a
theorem AKt{k:Int}{n:X3}{l:X5}{a:KX Tr}(h:QG (.node k n l x a)=0):1<=k/\k<=3/\n.size<=60/\x.size<=60:=by
 have e:∀y:X3,HG y=true->y.size<=60:=λy b=>by simp_all[HG,A7,B3]
 have d:∀y:X3,y=⟨#[]⟩->y.size<=60:=λy b=>by subst b;exact AT _
 unfold QG at h;split at h
 .cases h
 .rw[NB]at h;grind
mutual
theorem A7N:(t:Tr)->0<=NB t/\NB t<=8
 | .node k n l x a=>by have h:=A7O a;grind[NB]
theorem A7O:(a:KX Tr)->0<=QF a/\QF a<=8
 |[]=>by rw[QF];omega
 |t::a=>by have h:=A7N t;have b:=A7O a;grind[QF]
end
theorem AKu(s:X3):∃F,T_ s (QE s 4500 31)=some F/\match F with
 | .ok (.node k n _ x _)=>1<=k/\k<=3/\n.size<=60/\x.size<=60
 | .error (a,c)=>a<=4000/\0<=c/\c<=8:=by
 unfold T_;split
 .simp
 .next j=>
  have⟨F,h,e⟩:=A7H (s:=s) oa;rw[h];cases F with
  |error y=>obtain⟨a,c⟩:=y;have:=AKr h;grind
  |ok t=>
   obtain⟨k,n,l,x,b⟩:=t;simp only;split
   .refine⟨_,rfl,AT _,?_⟩;have:=A7N (.node k n l x b);grind[QG]
   .next d=>exact⟨_,rfl,AKt (BX d)⟩
theorem AKv(s:X3)(a:s.size<4611686018427387904)(w:X4)(F)(e:T_ s (QE s 4500 31)=some F):Calls Tryz.prog 167 #[.string s] w (A7C w F):=by
 by_cases d:s.size<=4000
 .obtain⟨G,l,j⟩:=A7H d;refine A7D A0d s (QE s 4500 31) (λd b=>AKH A0d b s 4500 oa d 31) ?_ a ?_ w F e
  .grind
  grind
 .refine A7D A0d s (λ_=>none) (λh=>absurd h d) ?_ a ?_ w F ?_
  .grind[NA]
  .grind[NA]
  simp_all[T_,if_pos]
theorem W3.asBelow(h:W3 w.heap.size w w'):Below w.heap.size w w':=⟨h.os,h.tape,h.out,h.size,λj a=>h.heap j a oa⟩
abbrev oX:Ty:=.agg (.prod (.int .i64) (.prod .str (.prod .bool (.prod .str .opq))))
theorem A7P{I:Im}{k:Int}{n:X3}{l:X5}(h:F_ .i64 k)(a:n.size<=60)(b:x.size<=60):
 Z4 w I oX (k,n.data.toList,l,x.data.toList,()) (.agg #[.int .i64 k,.string n,.bool l,.string x,.slice so sn sc]):=by
 have e:∀y:X3,(⟨y.data.toList.toArray⟩:X3)=y:=λy=>by cases y;simp
 have z:∀y:X3,y.size<=60->y.data.toList.length<=281474976710656:=λy d=>by have:y.data.toList.length=y.size:=oh;omega
 refine⟨[.int .i64 k,.string n,.bool l,.string x,.slice so sn sc],rfl,[.int .i64 k],[.string n,.bool l,.string x,.slice so sn sc],rfl,⟨rfl,h⟩,[.string n],[.bool l,.string x,.slice so sn sc],rfl,⟨?_,z n a⟩,[.bool l],[.string x,.slice so sn sc],rfl,rfl,[.string x],[.slice so sn sc],rfl,⟨?_,z x b⟩,.slice so sn sc,rfl,rfl⟩
 .rw[e n]
 .rw[e x]
noncomputable def AKw:Q2:=⟨[.val .str],[.val oX,.val (.int .i64),.val (.int .i64)],vH,false⟩
theorem AKx:FJ Go.Proofs.Tryz.prog 167/\Z9 Go.Proofs.Tryz.prog 167 AKw:=by
 refine⟨W6 Tryz.func167 oe oe,Z9.given λw I v A bs H s r C=>?_⟩;obtain⟨rfl,x,rfl,E⟩:=in1 s;obtain⟨rfl,h0⟩:=PH E;cases C;have z:(⟨Array.mk v⟩:X3).size=v.length:=OR v;have⟨F,B,d⟩:=AKu ⟨v.toArray⟩;rw[B];refine⟨rfl,(AKv ⟨v.toArray⟩ (by rw[z];omega) w F B).mono λe G ⟨j,m⟩=>?_⟩;cases F with
 |ok t=>
  obtain⟨l,an,al,p,L,K,J,rfl,D⟩:=m;have key:∃b,t=.node l an al p b:=by cases D<;>exact⟨_,rfl⟩
  obtain⟨b,rfl⟩:=key;have d:1<=l/\l<=3/\an.size<=60/\p.size<=60:=d;refine⟨_,[_,_,_],noX,rfl,rfl,rfl,j.asBelow,(λh=>om),j6,?_⟩;have z0:Z4 G (imNew I noX) (.int .i64) (0:Int) (.int .i64 0):=l4 (DB oi oi);exact out3 (a:=oX) (b:=.int .i64) (c:=.int .i64) (x:=((l,an.data.toList,al,p.data.toList,()),(0:Int),(0:Int))) (A7P (DB oa oa) d.2.2.1 d.2.2.2) z0 z0
 |error y=>obtain⟨a,c⟩:=y;have m:e=_:=m;subst m;have d:a<=4000/\0<=c/\c<=8:=d;refine⟨_,[_,_,_],noX,rfl,rfl,rfl,j.asBelow,(λh=>om),j6,?_⟩;exact out3 (a:=oX) (b:=.int .i64) (c:=.int .i64) (x:=(((0:Int),[],false,[],()),(a:Int),c)) (A7P (n:=⟨#[]⟩) (x:=⟨#[]⟩) (DB oi oi) (AT _) (AT _)) (l4 (k:=.i64) (n:=(a:Int)) (DB oa oa)) (l4 (k:=.i64) (n:=c) (DB oa oa))
end Go.Ev.Pv
