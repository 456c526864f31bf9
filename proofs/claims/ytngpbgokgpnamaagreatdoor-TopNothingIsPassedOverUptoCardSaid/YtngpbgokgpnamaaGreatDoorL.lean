/-
  Its next part.
-/
import Derived.Test.YtngpbgokgpnamaaGreatDoorM
set_option linter.all false
set_option maxRecDepth 1000000
set_option maxHeartbeats 16000000
namespace Go.Ev.Pv
open Go.Proofs Go.RowKit
attribute [local irreducible] wpOpsS
open Go.Lib
def Wh(s:ByteArray)(r:RS):Prop:=r.en<=s.size/\r.at_<=s.size
def SD{α:Type}(s:ByteArray)(F:Except (Nat×Int) (α×RS)):Prop:=match F with
 | .ok (_,r)=>Wh s r
 | .error (a,_)=>a<=s.size
theorem A6X{s:ByteArray}{en:Nat}(h:en<=s.size):F4 s.data.toList en<=s.size:=by have a:s.data.toList.length=s.size:=oh;grind[zU]
theorem AJx{s:ByteArray}{en:Nat}{op:Int}{r:RS}(h:FQ s en op=.ok r):r.at_=F4 s.data.toList en:=by grind[FQ]
theorem AJy{s:ByteArray}{en:Nat}{op:Int}{a:Nat}(h:FQ s en op=.error a):a=F4 s.data.toList en:=by grind[FQ]
theorem WZ{s:ByteArray}{en:Nat}{op:Int}{r:RS}(h:FQ s en op=.ok r)(a:en<=s.size):Wh s r:=⟨ND h a,by rw[AJx h];exact A6X a⟩
theorem W_{s:ByteArray}{en:Nat}{op:Int}{a:Nat}(h:FQ s en op=.error a)(b:en<=s.size):a<=s.size:=by rw[AJy h];exact A6X b
theorem A6Y{s word:ByteArray}{r:RS}(h:Wh s r):SD s (IU s word r):=by
 unfold IU;split
 .exact h
 .split
  .next a=>exact WZ a h.1
  .next a=>exact W_ a h.1
theorem A6Z{s:ByteArray}{r:RS}(h:Wh s r):SD s (J1 s r):=by
 unfold J1;split
 .exact h.2
 .split
  .next a=>exact WZ a h.1
  .next a=>exact W_ a h.1
theorem AJz{s:ByteArray}{r:RS}(h:Wh s r):SD s (LO s r):=by
 unfold LO;split
 .split
  .next a=>exact W_ a h.1
  .next a=>exact WZ a h.1
 .exact h
theorem AK0{s:ByteArray}{r:RS}(h:Wh s r):SD s (KO s r):=by
 have hi:=A6Y (word:=⟨#[87,73,84,72]⟩) h;unfold KO;split
 .next a=>rw[a]at hi;exact hi
 .next a=>rw[a]at hi;exact hi
 .next a=>rw[a]at hi;exact A6Z hi
theorem AK1{s:ByteArray}{r:RS}(h:Wh s r):SD s (JC s r):=by
 have h1:=A6Z h;unfold JC;split
 .next a=>rw[a]at h1;exact h1
 .next n e a=>
  rw[a]at h1;have b:=AJz (show Wh s e from h1);split
  .next a=>rw[a]at b;exact b
  .next l j a=>
   rw[a]at b;have d:=AK0 (show Wh s j from b);split
   .next a=>rw[a]at d;exact d
   .next a=>rw[a]at d;exact d
def PW(s:ByteArray)(P:PF):Prop:=∀r F,Wh s r->P r=some F->SD s F
theorem A6_{s word:ByteArray}{e:PF}(j:PW s e):∀(m:Nat) (a:List Tr) (r:RS) (F:Except (Nat×Int) (List Tr×RS)),Wh s r->K8 s word e m a r=some F->SD s F:=by
 intro m;induction m with
 |zero=>intro a r F h b;cases b
 |succ m p=>
  intro a r F h b;have h1:=A6Y (word:=word) h;unfold K8 at b;split at b
  .next d=>rw[d]at h1;cases b;exact h1
  .next d=>rw[d]at h1;cases b;exact h1
  .next l d=>
   rw[d]at h1;split at b
   .cases b
   .next d=>cases b;exact j l _ h1 d
   .next d=>exact p _ _ _ (j l _ h1 d) b
theorem A03{s word:ByteArray}{kind:Int}{d:PF}{m:Nat}(e:PW s d):PW s (J2 s kind word d m):=by
 intro r F h a;unfold J2 at a;split at a
 .cases a
 .next b=>cases a;exact e r _ h b
 .next t l b=>
  have h1:=e r _ h b;split at a
  .grind
  .split at a
   .cases a
   .next b=>cases a;have j:=A6_ e m _ _ _ h1 b;exact j
   .next b=>cases a;have j:=A6_ e m _ _ _ h1 b;exact j
theorem AK2{s:ByteArray}{e:PF}(l:PW s e){r:RS}{F:Except (Nat×Int) (Tr×RS)}(h:Wh s r)(a:OS s e r=some F):SD s F:=by
 unfold OS at a;split at a
 .cases a;exact h.2
 .split at a
  .next b=>cases a;exact W_ b h.1
  .next m b=>
   have j:=WZ b h.1;split at a
   .cases a
   .next b=>cases a;exact l m _ j b
   .next b=>
    have d:=l m _ j b;split at a
    .cases a;exact d.2
    .split at a
     .next b=>cases a;exact W_ b d.1
     .next b=>cases a;exact WZ b d.1
theorem AK3{s:ByteArray}{m:Nat}:∀d,PW s (N2 s m d):=by
 intro d;induction d with
 |zero=>intro r F h a;cases a
 |succ d b=>intro r F h a;grind[N2,AK2,A03,AK1]
theorem AK4{s:ByteArray}{a:Nat}{c:Int}{m d:Nat}(h:N3 s (P_ s m d)=some (.error (a,c))):a<=s.size:=by
 have e:PW s (P_ s m d):=A03 (A03 (AK3 d));unfold N3 at h;split at h
 .next b=>cases h;exact W_ b (AS _)
 .next r b=>
  have h1:=WZ b (AS _);split at h
  .cases h
  .next b=>cases h;exact e r _ h1 b
  .next b=>
   have j:=e r _ h1 b;split at h
   .cases h;exact j.2
   .cases h
theorem A6a{t:ByteArray}(h:KN t=true):t.size<=140737488355328/\∀(j:Nat) (b:UInt8),t.data.toList[j]?=some b->b.toNat<128:=by
 have h1:t.data.toList∈wordL:=by unfold KN at h;rw[ByteArray.toList_eq]at h;exact List.contains_iff_mem.1 h
 have d:∀l∈wordL,l.length<=5/\∀b∈l,b.toNat<128:=oi;have⟨k1,e⟩:=d _ h1;have a:t.data.toList.length=t.size:=oh;grind
theorem AK5:A6B:=λt W h=>(tj t W (A6a h).1 (A6a h).2).mono λe w k=>k
theorem A04:NC:=λb s r w d h a=>AJw AK5 b s r.en r.k r.tx r.at_ r.tg r.op w d h a
theorem AK6{k:Int}{n:ByteArray}{l:Bool}{x:ByteArray}{a:List Tr}(h:QA (.node k n l x a)=0):1<=k/\k<=3/\n.size<=60/\x.size<=60:=by
 have e:∀y:ByteArray,H8 y=true->y.size<=60:=λy b=>by simp_all[H8,A5,BA]
 have d:∀y:ByteArray,y=⟨#[]⟩->y.size<=60:=λy b=>by subst b;exact AS _
 unfold QA at h;split at h
 .cases h
 .rw[N4]at h;grind
mutual
theorem A6b:(t:Tr)->0<=N4 t/\N4 t<=8
 | .node k n l x a=>by have h:=A6c a;grind[N4]
theorem A6c:(a:List Tr)->0<=Q0 a/\Q0 a<=8
 |[]=>by rw[Q0];omega
 |t::a=>by have h1:=A6b t;have h:=A6c a;grind[Q0]
end
theorem AK7(s:ByteArray):∃F,TJ s (P_ s 4500 31)=some F/\match F with
 | .ok (.node k n _ x _)=>1<=k/\k<=3/\n.size<=60/\x.size<=60
 | .error (a,c)=>a<=4000/\0<=c/\c<=8:=by
 unfold TJ;split
 .simp
 .next j=>
  have⟨F,h,e⟩:=A6W (s:=s) oa;rw[h];cases F with
  |error y=>obtain⟨a,c⟩:=y;have:=AK4 h;grind
  |ok t=>
   obtain⟨k,n,l,x,b⟩:=t;simp only;split
   .refine⟨_,rfl,AS _,?_⟩;have:=A6b (.node k n l x b);grind[QA]
   .next d=>exact⟨_,rfl,AK6 (BI d)⟩
theorem AK8(s:ByteArray)(a:s.size<4611686018427387904)(w:World)(F)(e:TJ s (P_ s 4500 31)=some F):Calls Tryz.prog 241 #[.string s] w (A6R w F):=by
 by_cases d:s.size<=4000
 .obtain⟨G,l,j⟩:=A6W d;refine A6S A04 s (P_ s 4500 31) (λd b=>AJU A04 b s 4500 oa d 31) ?_ a ?_ w F e
  .grind
  grind
 .refine A6S A04 s (λ_=>none) (λh=>absurd h d) ?_ a ?_ w F ?_
  .grind[N3]
  .grind[N3]
  simp_all[TJ,if_pos]
theorem Frm.asBelow{w w':World}(h:Frm w.heap.size w w'):Below w.heap.size w w':=⟨h.os,h.tape,h.out,h.size,λj a=>h.heap j a oa⟩
abbrev oE:Ty:=.agg (.prod (.int .i64) (.prod .str (.prod .bool (.prod .str .opq))))
theorem A6d{w:World}{I:Im}{k:Int}{n x:ByteArray}{l:Bool}{a:Option Addr}{s sc:Nat}(h1:FZ .i64 k)(h:n.size<=60)(b:x.size<=60):
 VRel w I oE (k,n.data.toList,l,x.data.toList,()) (.agg #[.int .i64 k,.string n,.bool l,.string x,.slice a s sc]):=by
 have e:∀y:ByteArray,(⟨y.data.toList.toArray⟩:ByteArray)=y:=λy=>by cases y;simp
 have z:∀y:ByteArray,y.size<=60->y.data.toList.length<=281474976710656:=λy d=>by have:y.data.toList.length=y.size:=oh;omega
 refine⟨[.int .i64 k,.string n,.bool l,.string x,.slice a s sc],rfl,[.int .i64 k],[.string n,.bool l,.string x,.slice a s sc],rfl,⟨rfl,h1⟩,[.string n],[.bool l,.string x,.slice a s sc],rfl,⟨?_,z n h⟩,[.bool l],[.string x,.slice a s sc],rfl,rfl,[.string x],[.slice a s sc],rfl,⟨?_,z x b⟩,.slice a s sc,rfl,rfl⟩
 .rw[e n]
 .rw[e x]
noncomputable def AK9:FSpec:=⟨[.val .str],[.val oE,.val (.int .i64),.val (.int .i64)],uR,false⟩
theorem AKA:FK Go.Proofs.Tryz.prog 241/\FunOK Go.Proofs.Tryz.prog 241 AK9:=by
 refine⟨entered Tryz.func241 oe oe,FunOK.given λw I v A bs H s r C=>?_⟩;obtain⟨rfl,x,rfl,E⟩:=in1 s;obtain⟨rfl,h0⟩:=in_str E;cases C;have z:(⟨Array.mk v⟩:ByteArray).size=v.length:=OL v;have⟨F,B,d⟩:=AK7 ⟨v.toArray⟩;rw[B];refine⟨rfl,(AK8 ⟨v.toArray⟩ (by rw[z];omega) w F B).mono λe G ⟨j,m⟩=>?_⟩;cases F with
 |ok t=>
  obtain⟨l,an,al,p,L,K,J,rfl,D⟩:=m;have key:∃b,t=.node l an al p b:=by cases D<;>exact⟨_,rfl⟩
  obtain⟨b,rfl⟩:=key;have d:1<=l/\l<=3/\an.size<=60/\p.size<=60:=d;refine⟨_,[_,_,_],noX,rfl,rfl,rfl,j.asBelow,(λh=>oq),noX_ok,?_⟩;have z0:VRel G (imNew I noX) (.int .i64) (0:Int) (.int .i64 0):=out_int (i64_of oi oi);exact out3 (a:=oE) (b:=.int .i64) (c:=.int .i64) (x:=((l,an.data.toList,al,p.data.toList,()),(0:Int),(0:Int))) (A6d (i64_of oa oa) d.2.2.1 d.2.2.2) z0 z0
 |error y=>obtain⟨a,c⟩:=y;have m:e=_:=m;subst m;have d:a<=4000/\0<=c/\c<=8:=d;refine⟨_,[_,_,_],noX,rfl,rfl,rfl,j.asBelow,(λh=>oq),noX_ok,?_⟩;exact out3 (a:=oE) (b:=.int .i64) (c:=.int .i64) (x:=(((0:Int),[],false,[],()),(a:Int),c)) (A6d (n:=⟨#[]⟩) (x:=⟨#[]⟩) (i64_of oi oi) (AS _) (AS _)) (out_int (k:=.i64) (n:=(a:Int)) (i64_of oa oa)) (out_int (k:=.i64) (n:=c) (i64_of oa oa))
end Go.Ev.Pv
