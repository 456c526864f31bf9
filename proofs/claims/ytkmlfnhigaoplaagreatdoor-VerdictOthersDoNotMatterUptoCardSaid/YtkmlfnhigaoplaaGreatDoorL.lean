/-
  Its next part.
-/
import Derived.Test.YtkmlfnhigaoplaaGreatDoorM
set_option linter.all false
set_option maxRecDepth 1000000
set_option maxHeartbeats 16000000
namespace Go.Ev.Pv
open Go.Proofs Go.RowKit
attribute [local irreducible] wpOpsS
open Go.Lib
def Wh(s:ByteArray)(r:RS):Prop:=r.en<=s.size/\r.at_<=s.size
def S4{α:Type}(s:ByteArray)(F:Except (Nat×Int) (α×RS)):Prop:=match F with
 | .ok (_,r)=>Wh s r
 | .error (a,_)=>a<=s.size
theorem A6M{s:ByteArray}{en:Nat}(h:en<=s.size):F4 s.data.toList en<=s.size:=by
 have a:s.data.toList.length=s.size:=oh
 grind[zB]
theorem AJf{s:ByteArray}{en:Nat}{op:Int}{r:RS}(h:FP s en op=.ok r):r.at_=F4 s.data.toList en:=by
 grind[FP]
theorem AJg{s:ByteArray}{en:Nat}{op:Int}{a:Nat}(h:FP s en op=.error a):a=F4 s.data.toList en:=by
 grind[FP]
theorem WG{s:ByteArray}{en:Nat}{op:Int}{r:RS}(h:FP s en op=.ok r)(a:en<=s.size):Wh s r:=⟨N4 h a,by rw[AJf h];exact A6M a⟩
theorem WH{s:ByteArray}{en:Nat}{op:Int}{a:Nat}(h:FP s en op=.error a)(b:en<=s.size):a<=s.size:=by rw[AJg h];exact A6M b
theorem A6N{s word:ByteArray}{r:RS}(h:Wh s r):S4 s (IP s word r):=by
 unfold IP;split
 .exact h
 .split
  .next a=>exact WG a h.1
  .next a=>exact WH a h.1
theorem A6O{s:ByteArray}{r:RS}(h:Wh s r):S4 s (IW s r):=by
 unfold IW;split
 .exact h.2
 .split
  .next a=>exact WG a h.1
  .next a=>exact WH a h.1
theorem AJh{s:ByteArray}{r:RS}(h:Wh s r):S4 s (LL s r):=by
 unfold LL;split
 .split
  .next a=>exact WH a h.1
  .next a=>exact WG a h.1
 .exact h
theorem AJi{s:ByteArray}{r:RS}(h:Wh s r):S4 s (KN s r):=by
 have hi:=A6N (word:=⟨#[87,73,84,72]⟩) h;unfold KN;split
 .next a=>rw[a]at hi;exact hi
 .next a=>rw[a]at hi;exact hi
 .next a=>rw[a]at hi;exact A6O hi
theorem AJj{s:ByteArray}{r:RS}(h:Wh s r):S4 s (J7 s r):=by
 have h1:=A6O h;unfold J7;split
 .next a=>rw[a]at h1;exact h1
 .next n e a=>
  rw[a]at h1;have b:=AJh (show Wh s e from h1);split
  .next a=>rw[a]at b;exact b
  .next l j a=>
   rw[a]at b;have d:=AJi (show Wh s j from b);split
   .next a=>rw[a]at d;exact d
   .next a=>rw[a]at d;exact d
def PW(s:ByteArray)(P:PF):Prop:=∀r F,Wh s r->P r=some F->S4 s F
theorem A6P{s word:ByteArray}{e:PF}(j:PW s e):∀(m:Nat) (a:List Tr) (r:RS) (F:Except (Nat×Int) (List Tr×RS)),Wh s r->K6 s word e m a r=some F->S4 s F:=by
 intro m;induction m with
 |zero=>intro a r F h b;cases b
 |succ m p=>
  intro a r F h b;have h1:=A6N (word:=word) h;unfold K6 at b;split at b
  .next d=>rw[d]at h1;cases b;exact h1
  .next d=>rw[d]at h1;cases b;exact h1
  .next l d=>
   rw[d]at h1;split at b
   .cases b
   .next d=>cases b;exact j l _ h1 d
   .next d=>exact p _ _ _ (j l _ h1 d) b
theorem zM{s word:ByteArray}{kind:Int}{d:PF}{m:Nat}(e:PW s d):PW s (IX s kind word d m):=by
 intro r F h a;unfold IX at a;split at a
 .cases a
 .next b=>cases a;exact e r _ h b
 .next t l b=>
  have h1:=e r _ h b;split at a
  .grind
  .split at a
   .cases a
   .next b=>cases a;have j:=A6P e m _ _ _ h1 b;exact j
   .next b=>cases a;have j:=A6P e m _ _ _ h1 b;exact j
theorem AJk{s:ByteArray}{e:PF}(l:PW s e){r:RS}{F:Except (Nat×Int) (Tr×RS)}(h:Wh s r)(a:OJ s e r=some F):S4 s F:=by
 unfold OJ at a;split at a
 .cases a;exact h.2
 .split at a
  .next b=>cases a;exact WH b h.1
  .next m b=>
   have j:=WG b h.1;split at a
   .cases a
   .next b=>cases a;exact l m _ j b
   .next b=>
    have d:=l m _ j b;split at a
    .cases a;exact d.2
    .split at a
     .next b=>cases a;exact WH b d.1
     .next b=>cases a;exact WG b d.1
theorem AJl{s:ByteArray}{m:Nat}:∀d,PW s (MT s m d):=by
 intro d;induction d with
 |zero=>intro r F h a;cases a
 |succ d b=>
  intro r F h a;grind[MT,AJk,zM,AJj]
theorem AJm{s:ByteArray}{a:Nat}{c:Int}{m d:Nat}(h:MU s (PS s m d)=some (.error (a,c))):a<=s.size:=by
 have e:PW s (PS s m d):=zM (zM (AJl d));unfold MU at h;split at h
 .next b=>cases h;exact WH b (AR _)
 .next r b=>
  have h1:=WG b (AR _);split at h
  .cases h
  .next b=>cases h;exact e r _ h1 b
  .next b=>
   have j:=e r _ h1 b;split at h
   .cases h;exact j.2
   .cases h
theorem A6Q{t:ByteArray}(h:KL t=true):t.size<=140737488355328/\∀(j:Nat) (b:UInt8),t.data.toList[j]?=some b->b.toNat<128:=by
 have h1:t.data.toList∈wordL:=by unfold KL at h;rw[ByteArray.toList_eq]at h;exact List.contains_iff_mem.1 h
 have d:∀l∈wordL,l.length<=5/\∀b∈l,b.toNat<128:=oi
 have⟨k1,e⟩:=d _ h1;have a:t.data.toList.length=t.size:=oh
 grind
theorem AJn:A60:=λt W h=>(tj t W (A6Q h).1 (A6Q h).2).mono λe w k=>k
theorem zN:N3:=λb s r w d h a=>AJe AJn b s r.en r.k r.tx r.at_ r.tg r.op w d h a
theorem AJo{k:Int}{n:ByteArray}{l:Bool}{x:ByteArray}{a:List Tr}(h:PV (.node k n l x a)=0):1<=k/\k<=3/\n.size<=60/\x.size<=60:=by
 have e:∀y:ByteArray,H6 y=true->y.size<=60:=λy b=>by
  simp_all[H6,A5,BI]
 have d:∀y:ByteArray,y=⟨#[]⟩->y.size<=60:=λy b=>by subst b;exact AR _
 unfold PV at h;split at h
 .cases h
 .rw[MV]at h;grind
mutual
theorem A6R:(t:Tr)->0<=MV t/\MV t<=8
 | .node k n l x a=>by
  have h:=A6S a;grind[MV]
theorem A6S:(a:List Tr)->0<=PU a/\PU a<=8
 |[]=>by rw[PU];omega
 |t::a=>by
  have h1:=A6R t;have h:=A6S a;grind[PU]
end
theorem AJp(s:ByteArray):∃F,T7 s (PS s 4500 31)=some F/\match F with
 | .ok (.node k n _ x _)=>1<=k/\k<=3/\n.size<=60/\x.size<=60
 | .error (a,c)=>a<=4000/\0<=c/\c<=8:=by
 unfold T7;split
 .simp
 .next j=>
  have⟨F,h,e⟩:=A6L (s:=s) oa;rw[h];cases F with
  |error y=>
   obtain⟨a,c⟩:=y;have:=AJm h;grind
  |ok t=>
   obtain⟨k,n,l,x,b⟩:=t;simp only;split
   .refine⟨_,rfl,AR _,?_⟩;have:=A6R (.node k n l x b);grind[PV]
   .next d=>exact⟨_,rfl,AJo (BS d)⟩
theorem AJq(s:ByteArray)(a:s.size<4611686018427387904)(w:World)(F)(e:T7 s (PS s 4500 31)=some F):Calls Tryz.prog 166 #[.string s] w (A6G w F):=by
 by_cases d:s.size<=4000
 .obtain⟨G,l,j⟩:=A6L d;refine A6H zN s (PS s 4500 31) (λd b=>AJC zN b s 4500 oa d 31) ?_ a ?_ w F e
  .grind
  grind
 .refine A6H zN s (λ_=>none) (λh=>absurd h d) ?_ a ?_ w F ?_
  .grind[MU]
  .grind[MU]
  simp_all[T7,if_pos]
theorem Frm.asBelow{w w':World}(h:Frm w.heap.size w w'):Below w.heap.size w w':=⟨h.os,h.tape,h.out,h.size,λj a=>h.heap j a oa⟩
abbrev oB:Ty:=.agg (.prod (.int .i64) (.prod .str (.prod .bool (.prod .str .opq))))
theorem A6T{w:World}{I:Im}{k:Int}{n x:ByteArray}{l:Bool}{b:Option Addr}{a s:Nat}(h1:FY .i64 k)(h:n.size<=60)(d:x.size<=60):
 VRel w I oB (k,n.data.toList,l,x.data.toList,()) (.agg #[.int .i64 k,.string n,.bool l,.string x,.slice b a s]):=by
 have e:∀y:ByteArray,(⟨y.data.toList.toArray⟩:ByteArray)=y:=λy=>by cases y;simp
 have z:∀y:ByteArray,y.size<=60->y.data.toList.length<=281474976710656:=λy j=>by
  have:y.data.toList.length=y.size:=oh
  omega
 refine⟨[.int .i64 k,.string n,.bool l,.string x,.slice b a s],rfl,[.int .i64 k],[.string n,.bool l,.string x,.slice b a s],rfl,⟨rfl,h1⟩,[.string n],[.bool l,.string x,.slice b a s],rfl,⟨?_,z n h⟩,[.bool l],[.string x,.slice b a s],rfl,rfl,[.string x],[.slice b a s],rfl,⟨?_,z x d⟩,.slice b a s,rfl,rfl⟩
 .rw[e n]
 .rw[e x]
noncomputable def AJr:FSpec:=⟨[.val .str],[.val oB,.val (.int .i64),.val (.int .i64)],uC,false⟩
theorem AJs:FG Go.Proofs.Tryz.prog 166/\FunOK Go.Proofs.Tryz.prog 166 AJr:=by
 refine⟨entered Tryz.func166 oe oe,FunOK.given λw I v A bs J s r D=>?_⟩;obtain⟨rfl,x,rfl,G⟩:=in1 s;obtain⟨rfl,h0⟩:=in_str G;cases D;have z:(⟨Array.mk v⟩:ByteArray).size=v.length:=OC v;have⟨F,B,d⟩:=AJp ⟨v.toArray⟩;rw[B];refine⟨rfl,(AJq ⟨v.toArray⟩ (by rw[z];omega) w F B).mono λe H ⟨j,m⟩=>?_⟩;cases F with
 |ok t=>
  obtain⟨l,an,al,p,M,L,K,rfl,E⟩:=m;have key:∃b,t=.node l an al p b:=by cases E<;>exact⟨_,rfl⟩
  obtain⟨b,rfl⟩:=key;have d:1<=l/\l<=3/\an.size<=60/\p.size<=60:=d;refine⟨_,[_,_,_],noX,rfl,rfl,rfl,j.asBelow,(λh=>oq),noX_ok,?_⟩;have C:VRel H (imNew I noX) (.int .i64) (0:Int) (.int .i64 0):=out_int (i64_of oi oi);exact out3 (a:=oB) (b:=.int .i64) (c:=.int .i64) (x:=((l,an.data.toList,al,p.data.toList,()),(0:Int),(0:Int))) (A6T (i64_of oa oa) d.2.2.1 d.2.2.2) C C
 |error y=>
  obtain⟨a,c⟩:=y;have m:e=_:=m;subst m;have d:a<=4000/\0<=c/\c<=8:=d;refine⟨_,[_,_,_],noX,rfl,rfl,rfl,j.asBelow,(λh=>oq),noX_ok,?_⟩;exact out3 (a:=oB) (b:=.int .i64) (c:=.int .i64) (x:=(((0:Int),[],false,[],()),(a:Int),c)) (A6T (n:=⟨#[]⟩) (x:=⟨#[]⟩) (i64_of oi oi) (AR _) (AR _)) (out_int (k:=.i64) (n:=(a:Int)) (i64_of oa oa)) (out_int (k:=.i64) (n:=c) (i64_of oa oa))
end Go.Ev.Pv
