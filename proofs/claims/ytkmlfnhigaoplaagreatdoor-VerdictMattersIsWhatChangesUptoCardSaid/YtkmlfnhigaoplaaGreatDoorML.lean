/-
  Its next part.
-/
import Derived.Test.YtkmlfnhigaoplaaGreatDoorMM
set_option linter.all false
set_option maxRecDepth 1000000
set_option maxHeartbeats 16000000
namespace Go.Ev.Pv
open Go.Proofs Go.RowKit
attribute [local irreducible] wpOpsS
open Go.Lib
def Wh(s:ByteArray)(r:RS):Prop:=r.en<=s.size/\r.at_<=s.size
def S9{α:Type}(s:ByteArray)(F:Except (Nat×Int) (α×RS)):Prop:=match F with
 | .ok (_,r)=>Wh s r
 | .error (a,_)=>a<=s.size
theorem A6T{s:ByteArray}{en:Nat}(h:en<=s.size):F3 s.data.toList en<=s.size:=by
 have a:s.data.toList.length=s.size:=oh
 grind[zQ]
theorem AJw{s:ByteArray}{en:Nat}{op:Int}{r:RS}(h:FN s en op=.ok r):r.at_=F3 s.data.toList en:=by
 grind[FN]
theorem AJx{s:ByteArray}{en:Nat}{op:Int}{a:Nat}(h:FN s en op=.error a):a=F3 s.data.toList en:=by
 grind[FN]
theorem WK{s:ByteArray}{en:Nat}{op:Int}{r:RS}(h:FN s en op=.ok r)(a:en<=s.size):Wh s r:=⟨NB h a,by rw[AJw h];exact A6T a⟩
theorem WL{s:ByteArray}{en:Nat}{op:Int}{a:Nat}(h:FN s en op=.error a)(b:en<=s.size):a<=s.size:=by rw[AJx h];exact A6T b
theorem A6U{s word:ByteArray}{r:RS}(h:Wh s r):S9 s (IQ s word r):=by
 unfold IQ;split
 .exact h
 .split
  .next a=>exact WK a h.1
  .next a=>exact WL a h.1
theorem A6V{s:ByteArray}{r:RS}(h:Wh s r):S9 s (IV s r):=by
 unfold IV;split
 .exact h.2
 .split
  .next a=>exact WK a h.1
  .next a=>exact WL a h.1
theorem AJy{s:ByteArray}{r:RS}(h:Wh s r):S9 s (LN s r):=by
 unfold LN;split
 .split
  .next a=>exact WL a h.1
  .next a=>exact WK a h.1
 .exact h
theorem AJz{s:ByteArray}{r:RS}(h:Wh s r):S9 s (KL s r):=by
 have hi:=A6U (word:=⟨#[87,73,84,72]⟩) h;unfold KL;split
 .next a=>rw[a]at hi;exact hi
 .next a=>rw[a]at hi;exact hi
 .next a=>rw[a]at hi;exact A6V hi
theorem AK0{s:ByteArray}{r:RS}(h:Wh s r):S9 s (J6 s r):=by
 have h1:=A6V h;unfold J6;split
 .next a=>rw[a]at h1;exact h1
 .next n e a=>
  rw[a]at h1;have b:=AJy (show Wh s e from h1);split
  .next a=>rw[a]at b;exact b
  .next l j a=>
   rw[a]at b;have d:=AJz (show Wh s j from b);split
   .next a=>rw[a]at d;exact d
   .next a=>rw[a]at d;exact d
def PW(s:ByteArray)(P:PF):Prop:=∀r F,Wh s r->P r=some F->S9 s F
theorem A6W{s word:ByteArray}{e:PF}(j:PW s e):∀(m:Nat) (a:List Tr) (r:RS) (F:Except (Nat×Int) (List Tr×RS)),Wh s r->K0 s word e m a r=some F->S9 s F:=by
 intro m;induction m with
 |zero=>intro a r F h b;cases b
 |succ m p=>
  intro a r F h b;have h1:=A6U (word:=word) h;unfold K0 at b;split at b
  .next d=>rw[d]at h1;cases b;exact h1
  .next d=>rw[d]at h1;cases b;exact h1
  .next l d=>
   rw[d]at h1;split at b
   .cases b
   .next d=>cases b;exact j l _ h1 d
   .next d=>exact p _ _ _ (j l _ h1 d) b
theorem z_{s word:ByteArray}{kind:Int}{d:PF}{m:Nat}(e:PW s d):PW s (IW s kind word d m):=by
 intro r F h a;unfold IW at a;split at a
 .cases a
 .next b=>cases a;exact e r _ h b
 .next t l b=>
  have h1:=e r _ h b;split at a
  .grind
  .split at a
   .cases a
   .next b=>cases a;have j:=A6W e m _ _ _ h1 b;exact j
   .next b=>cases a;have j:=A6W e m _ _ _ h1 b;exact j
theorem AK1{s:ByteArray}{e:PF}(l:PW s e){r:RS}{F:Except (Nat×Int) (Tr×RS)}(h:Wh s r)(a:OO s e r=some F):S9 s F:=by
 unfold OO at a;split at a
 .cases a;exact h.2
 .split at a
  .next b=>cases a;exact WL b h.1
  .next m b=>
   have j:=WK b h.1;split at a
   .cases a
   .next b=>cases a;exact l m _ j b
   .next b=>
    have d:=l m _ j b;split at a
    .cases a;exact d.2
    .split at a
     .next b=>cases a;exact WL b d.1
     .next b=>cases a;exact WK b d.1
theorem AK2{s:ByteArray}{m:Nat}:∀d,PW s (MZ s m d):=by
 intro d;induction d with
 |zero=>intro r F h a;cases a
 |succ d b=>
  intro r F h a;grind[MZ,AK1,z_,AK0]
theorem AK3{s:ByteArray}{a:Nat}{c:Int}{m d:Nat}(h:M_ s (Q0 s m d)=some (.error (a,c))):a<=s.size:=by
 have e:PW s (Q0 s m d):=z_ (z_ (AK2 d));unfold M_ at h;split at h
 .next b=>cases h;exact WL b (AQ _)
 .next r b=>
  have h1:=WK b (AQ _);split at h
  .cases h
  .next b=>cases h;exact e r _ h1 b
  .next b=>
   have j:=e r _ h1 b;split at h
   .cases h;exact j.2
   .cases h
theorem A6X{t:ByteArray}(h:KK t=true):t.size<=140737488355328/\∀(j:Nat) (b:UInt8),t.data.toList[j]?=some b->b.toNat<128:=by
 have h1:t.data.toList∈wordL:=by unfold KK at h;rw[ByteArray.toList_eq]at h;exact List.contains_iff_mem.1 h
 have d:∀l∈wordL,l.length<=5/\∀b∈l,b.toNat<128:=oi
 have⟨k1,e⟩:=d _ h1;have a:t.data.toList.length=t.size:=oh
 grind
theorem AK4:A67:=λt W h=>(tn t W (A6X h).1 (A6X h).2).mono λe w k=>k
theorem A00:NA:=λb s r w d h a=>AJv AK4 b s r.en r.k r.tx r.at_ r.tg r.op w d h a
theorem AK5{k:Int}{n:ByteArray}{l:Bool}{x:ByteArray}{a:List Tr}(h:QB (.node k n l x a)=0):1<=k/\k<=3/\n.size<=60/\x.size<=60:=by
 have e:∀y:ByteArray,H6 y=true->y.size<=60:=λy b=>by
  simp_all[H6,A4,BH]
 have d:∀y:ByteArray,y=⟨#[]⟩->y.size<=60:=λy b=>by subst b;exact AQ _
 unfold QB at h;split at h
 .cases h
 .rw[N0]at h;grind
mutual
theorem A6Y:(t:Tr)->0<=N0 t/\N0 t<=8
 | .node k n l x a=>by
  have h:=A6Z a;grind[N0]
theorem A6Z:(a:List Tr)->0<=QA a/\QA a<=8
 |[]=>by rw[QA];omega
 |t::a=>by
  have h1:=A6Y t;have h:=A6Z a;grind[QA]
end
theorem AK6(s:ByteArray):∃F,TF s (Q0 s 4500 31)=some F/\match F with
 | .ok (.node k n _ x _)=>1<=k/\k<=3/\n.size<=60/\x.size<=60
 | .error (a,c)=>a<=4000/\0<=c/\c<=8:=by
 unfold TF;split
 .simp
 .next j=>
  have⟨F,h,e⟩:=A6S (s:=s) oa;rw[h];cases F with
  |error y=>
   obtain⟨a,c⟩:=y;have:=AK3 h;grind
  |ok t=>
   obtain⟨k,n,l,x,b⟩:=t;simp only;split
   .refine⟨_,rfl,AQ _,?_⟩;have:=A6Y (.node k n l x b);grind[QB]
   .next d=>exact⟨_,rfl,AK5 (BI d)⟩
theorem AK7(s:ByteArray)(a:s.size<4611686018427387904)(w:World)(F)(e:TF s (Q0 s 4500 31)=some F):Calls Tryz.prog 166 #[.string s] w (A6N w F):=by
 by_cases d:s.size<=4000
 .obtain⟨G,l,j⟩:=A6S d;refine A6O A00 s (Q0 s 4500 31) (λd b=>AJT A00 b s 4500 oa d 31) ?_ a ?_ w F e
  .grind
  grind
 .refine A6O A00 s (λ_=>none) (λh=>absurd h d) ?_ a ?_ w F ?_
  .grind[M_]
  .grind[M_]
  simp_all[TF,if_pos]
theorem Frm.asBelow{w w':World}(h:Frm w.heap.size w w'):Below w.heap.size w w':=⟨h.os,h.tape,h.out,h.size,λj a=>h.heap j a oa⟩
abbrev oJ:Ty:=.agg (.prod (.int .i64) (.prod .str (.prod .bool (.prod .str .opq))))
theorem A6_{w:World}{I:Im}{k:Int}{n x:ByteArray}{l:Bool}{b:Option Addr}{a s:Nat}(h1:FY .i64 k)(h:n.size<=60)(d:x.size<=60):
 VRel w I oJ (k,n.data.toList,l,x.data.toList,()) (.agg #[.int .i64 k,.string n,.bool l,.string x,.slice b a s]):=by
 have e:∀y:ByteArray,(⟨y.data.toList.toArray⟩:ByteArray)=y:=λy=>by cases y;simp
 have z:∀y:ByteArray,y.size<=60->y.data.toList.length<=281474976710656:=λy j=>by
  have:y.data.toList.length=y.size:=oh
  omega
 refine⟨[.int .i64 k,.string n,.bool l,.string x,.slice b a s],rfl,[.int .i64 k],[.string n,.bool l,.string x,.slice b a s],rfl,⟨rfl,h1⟩,[.string n],[.bool l,.string x,.slice b a s],rfl,⟨?_,z n h⟩,[.bool l],[.string x,.slice b a s],rfl,rfl,[.string x],[.slice b a s],rfl,⟨?_,z x d⟩,.slice b a s,rfl,rfl⟩
 .rw[e n]
 .rw[e x]
noncomputable def AK8:FSpec:=⟨[.val .str],[.val oJ,.val (.int .i64),.val (.int .i64)],uQ,false⟩
theorem AK9:FF Go.Proofs.Tryz.prog 166/\FunOK Go.Proofs.Tryz.prog 166 AK8:=by
 refine⟨entered Tryz.func166 oe oe,FunOK.given λw I v A bs J s r D=>?_⟩;obtain⟨rfl,x,rfl,G⟩:=in1 s;obtain⟨rfl,h0⟩:=in_str G;cases D;have z:(⟨Array.mk v⟩:ByteArray).size=v.length:=OH v;have⟨F,B,d⟩:=AK6 ⟨v.toArray⟩;rw[B];refine⟨rfl,(AK7 ⟨v.toArray⟩ (by rw[z];omega) w F B).mono λe H ⟨j,m⟩=>?_⟩;cases F with
 |ok t=>
  obtain⟨l,an,al,p,M,L,K,rfl,E⟩:=m;have key:∃b,t=.node l an al p b:=by cases E<;>exact⟨_,rfl⟩
  obtain⟨b,rfl⟩:=key;have d:1<=l/\l<=3/\an.size<=60/\p.size<=60:=d;refine⟨_,[_,_,_],noX,rfl,rfl,rfl,j.asBelow,(λh=>oq),noX_ok,?_⟩;have C:VRel H (imNew I noX) (.int .i64) (0:Int) (.int .i64 0):=out_int (i64_of oi oi);exact out3 (a:=oJ) (b:=.int .i64) (c:=.int .i64) (x:=((l,an.data.toList,al,p.data.toList,()),(0:Int),(0:Int))) (A6_ (i64_of oa oa) d.2.2.1 d.2.2.2) C C
 |error y=>
  obtain⟨a,c⟩:=y;have m:e=_:=m;subst m;have d:a<=4000/\0<=c/\c<=8:=d;refine⟨_,[_,_,_],noX,rfl,rfl,rfl,j.asBelow,(λh=>oq),noX_ok,?_⟩;exact out3 (a:=oJ) (b:=.int .i64) (c:=.int .i64) (x:=(((0:Int),[],false,[],()),(a:Int),c)) (A6_ (n:=⟨#[]⟩) (x:=⟨#[]⟩) (i64_of oi oi) (AQ _) (AQ _)) (out_int (k:=.i64) (n:=(a:Int)) (i64_of oa oa)) (out_int (k:=.i64) (n:=c) (i64_of oa oa))
end Go.Ev.Pv
