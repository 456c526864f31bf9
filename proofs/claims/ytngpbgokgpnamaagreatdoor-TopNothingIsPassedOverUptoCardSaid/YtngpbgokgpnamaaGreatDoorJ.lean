/-
  Its next part.
-/
import Derived.Test.YtngpbgokgpnamaaGreatDoorI
set_option linter.all false
set_option maxRecDepth 1000000
set_option maxHeartbeats 16000000
namespace Go.Ev.Pv
open Go.Proofs Go.RowKit
attribute [local irreducible] wpOpsS
theorem AJe(p q:Nat)(l m:Int)(w:World){a b c d e x y:Value}(W:Five w p a b c d e)(X:Two w q x y)(s:p≠q)(C:p<w.heap.size)(D:q<w.heap.size):
 CallsD Tryz.prog 334 #[.pointer (some ⟨p,0,none⟩),.pointer (some ⟨q,0,none⟩)] (.panicking (QG l m)) w λen Z z=>
  en=.returned (.tuple #[])/\Z=.panicking [{v:=nY l m,recovered:=true}]/\Five z p (.int .i64 0) (.string ⟨#[]⟩) (.bool false) (.string ⟨#[]⟩) (.slice none 0 0)/\Two z q (.int .i64 l) (.int .i64 m)/\
   z.heap.size=w.heap.size+1/\(∀j,j<w.heap.size->j≠p->j≠q->z.heap[j]?=w.heap[j]?)/\z.os=w.os/\z.tape=w.tape/\z.output=w.output:=by
 obtain⟨c0,H,I,J,K,f0,f1,R,T,U⟩:=W;obtain⟨M,N,e0,O⟩:=X;have E:q≠p:=s.symm;have G:=tf;unfold QG nY;refine callsD_of_wpS Tryz.func334 rfl λA L Y=>?_
 simp only [Tryz.ntmps334,B7,BL,C4,Nat.reduceAdd,Nat.reduceSub,Array.replicate_succ,
  Array.replicate_zero,List.push_toArray,List.append_toArray,CZ,List.cons_append]
 apply wpS_seq;apply wpS_region;rw[show List.range (Array.size _)=[0,1,2,3,4,5,6,7]from rfl];generalize V:Exit.thenS _ _=Q;refine AJc rfl rfl rfl (AJV A L _ Y) ?_;refine NE (v:=.tuple #[.agg #[.int .i64 l,.int .i64 m],.bool true]) (w':=w) rfl rfl (by rfl) ?_;refine NE (v:=.tuple #[.agg #[.int .i64 l,.int .i64 m],.bool true]) (w':=w) rfl rfl rfl ?_;refine NE (v:=.agg #[.int .i64 l,.int .i64 m]) (w':=w) rfl rfl rfl ?_;refine NE (v:=.bool true) (w':=w) rfl rfl rfl ?_;refine NE (v:=.pointer (some ⟨w.heap.size,0,none⟩)) (w':=w.alloc (.cells #[.int .i64 0,.int .i64 0] 456)) rfl rfl (by simp[go_sem]) ?_;refine A6N (w':=w.alloc (.cells #[.int .i64 l,.int .i64 m] 456)) rfl rfl (by simp[go_sem,Act.eval,Act.put]) ?_;refine NE (v:=.bool true) (w':=w.alloc (.cells #[.int .i64 l,.int .i64 m] 456)) rfl rfl rfl ?_;rw[wpOpsS,<-V,Exit.thenS];refine wpS_of_wp ?_;simp only[Act.put,List.setIfInBounds_toArray,List.set_cons_succ,List.set_cons_zero]
 go_wp2_with fail
 go_region
 all_goals go_wp2_with fail
 refine⟨rfl,.panicking [{v:=.iface 456 (.agg #[.int .i64 l,.int .i64 m]),recovered:=true}],?_,.tuple #[],by simp[results,Tryz.results334],rfl,rfl,?_,?_,?_,?_,?_,?_,?_⟩
 .rfl
 .refine⟨?_,?_,?_,?_,?_,?_,?_,?_,?_,?_⟩<;>simp[go_sem,c0,H,I,J,K,f0,f1,R,T,U,s,E,C,D]
 .refine⟨?_,?_,?_,?_⟩<;>simp[go_sem,M,N,e0,O,s,E,C,D]
 .simp
 .intro j hj h B;simp only[AJW];rw[IG (by simp_all),heap_setCell B.symm,heap_setCell B.symm,heap_setCell h.symm,heap_setCell h.symm,heap_setCell h.symm,heap_setCell h.symm,heap_setCell h.symm]
 .simp only[AJX,AJZ,AJa]
 .simp
 .simp only[AJY,AJ_,AJb]
theorem AJf(c:Frame)(cs:List Frame)(h:c.mode=.returning):recoverD (c::cs)=none:=by simp[recoverD,h]
theorem AJg(p q:Nat)(w:World):
 CallsD Tryz.prog 334 #[.pointer (some ⟨p,0,none⟩),.pointer (some ⟨q,0,none⟩)] .returning w λen e j=>
  en=.returned (.tuple #[])/\e=.returning/\j=w.alloc (.cells #[.int .i64 0,.int .i64 0] 456):=by
 refine callsD_of_wpS Tryz.func334 rfl λa b d=>?_
 simp only [Tryz.ntmps334,B7,BL,C4,Nat.reduceAdd,Nat.reduceSub,Array.replicate_succ,
  Array.replicate_zero,List.push_toArray,List.append_toArray,CZ,List.cons_append]
 apply wpS_seq;apply wpS_region;rw[show List.range (Array.size _)=[0,1,2,3,4,5,6,7]from rfl];generalize h:Exit.thenS _ _=Q;refine AJd rfl rfl rfl (AJf a b d) ?_;refine NE (v:=.tuple #[.agg #[.int .i64 0,.int .i64 0],.bool false]) (w':=w) rfl rfl (by rfl) ?_;refine NE (v:=.tuple #[.agg #[.int .i64 0,.int .i64 0],.bool false]) (w':=w) rfl rfl rfl ?_;refine NE (v:=.agg #[.int .i64 0,.int .i64 0]) (w':=w) rfl rfl rfl ?_;refine NE (v:=.bool false) (w':=w) rfl rfl rfl ?_;refine NE (v:=.pointer (some ⟨w.heap.size,0,none⟩)) (w':=w.alloc (.cells #[.int .i64 0,.int .i64 0] 456)) rfl rfl (by simp[go_sem]) ?_;refine A6N (w':=w.alloc (.cells #[.int .i64 0,.int .i64 0] 456)) rfl rfl (by simp[go_sem,Act.eval,Act.put]) ?_;refine NE (v:=.bool false) (w':=w.alloc (.cells #[.int .i64 0,.int .i64 0] 456)) rfl rfl rfl ?_;rw[wpOpsS,<-h,Exit.thenS];refine wpS_of_wp ?_;simp only[Act.put,List.setIfInBounds_toArray,List.set_cons_succ,List.set_cons_zero]
 go_wp2_with fail
 refine⟨rfl,.returning,?_,.tuple #[],by simp[results,Tryz.results334],rfl,rfl,rfl⟩;cases a;grind
def zZ(w:World)(F:Except (Nat×Int) Tr)(e:Ending)(w':World):Prop:=Frm w.heap.size w w'/\match F with
 | .ok t=>∃(ak:Int) (an:ByteArray) (al:Bool) (ax:ByteArray) (so:Option Addr) (sn sc:Nat),e=.returned (.tuple #[.agg #[.int .i64 ak,.string an,.bool al,.string ax,.slice so sn sc],.agg #[.int .i64 0,.int .i64 0]])/\
  TrAt (w.heap.size<=·) w' t [.int .i64 ak,.string an,.bool al,.string ax,.slice so sn sc]
 | .error (a,c)=>e=.returned (.tuple #[.agg #[.int .i64 0,.string ⟨#[]⟩,.bool false,.string ⟨#[]⟩,.slice none 0 0],.agg #[.int .i64 a,.int .i64 c]])
abbrev z5(w:World)(g:Nat):Prop:=Five w g (.int .i64 0) (.string ⟨#[]⟩) (.bool false) (.string ⟨#[]⟩) (.slice none 0 0)
theorem z_{w m:World}{h:Nat}{l:Int}{tmps:Array Value}{a b c d e:Value}(k1:Five m w.heap.size a b c d e)(J:Two m (w.heap.size+1) (.int .i64 0) (.int .i64 0))(y:Frm w.heap.size w m)(I:w.heap.size+2<=m.heap.size)
 (p:∀x:World,w.heap.size+1<x.heap.size->z5 x w.heap.size->Two x (w.heap.size+1) (.int .i64 h) (.int .i64 l)->(results Tryz.f301 tmps).run Tryz.prog x=.ok (.tuple #[.agg #[.int .i64 0,.string ⟨#[]⟩,.bool false,.string ⟨#[]⟩,.slice none 0 0],.agg #[.int .i64 h,.int .i64 l]]) x):
 Leaves Tryz.prog Tryz.f301 tmps (zZ w (.error (h,l))) [{target:=.fn (.func 334) #[.pointer (some ⟨w.heap.size,0,none⟩),.pointer (some ⟨w.heap.size+1,0,none⟩)],args:=#[]}] (.panicking (QG h l)) m:=by
 refine leaves_cons (f:=334) (args:=#[.pointer (some ⟨w.heap.size,0,none⟩),.pointer (some ⟨w.heap.size+1,0,none⟩)]) oh (by simp[go_sem]) ?_;refine(AJe w.heap.size (w.heap.size+1) h l m k1 J oa oa oa).mono ?_;rintro e L A ⟨rfl,rfl,h1,B,K,C,D,E,G⟩;have s:settle (.panicking [{v:=nY h l,recovered:=true}])=.returning:=rfl;simp only[s];refine⟨_,p A oa h1 B,⟨oa,λj H z=>?_,D.trans y.os,E.trans y.tape,G.trans y.out⟩,rfl⟩;exact(C j oa oa oa).trans (y.heap j H z)
theorem AJh{w a:World}{t:Tr}{d:Int}{an:ByteArray}{al:Bool}{h:ByteArray}{p:Option Addr}{s sc:Nat}{tmps:Array Value}(k1:Five a w.heap.size (.int .i64 d) (.string an) (.bool al) (.string h) (.slice p s sc))
 (E:Two a (w.heap.size+1) (.int .i64 0) (.int .i64 0))(G:Frm w.heap.size w a)(D:w.heap.size+2<=a.heap.size)(H:TrAt (w.heap.size<=·) a t [.int .i64 d,.string an,.bool al,.string h,.slice p s sc])
 (l:∀x:World,w.heap.size+1<x.heap.size->Five x w.heap.size (.int .i64 d) (.string an) (.bool al) (.string h) (.slice p s sc)->Two x (w.heap.size+1) (.int .i64 0) (.int .i64 0)->(results Tryz.f301 tmps).run Tryz.prog x=.ok (.tuple #[.agg #[.int .i64 d,.string an,.bool al,.string h,.slice p s sc],.agg #[.int .i64 0,.int .i64 0]]) x):
 Leaves Tryz.prog Tryz.f301 tmps (zZ w (.ok t)) [{target:=.fn (.func 334) #[.pointer (some ⟨w.heap.size,0,none⟩),.pointer (some ⟨w.heap.size+1,0,none⟩)],args:=#[]}] .returning a:=by
 refine leaves_cons (f:=334) (args:=#[.pointer (some ⟨w.heap.size,0,none⟩),.pointer (some ⟨w.heap.size+1,0,none⟩)]) oh (by simp[go_sem]) ?_;refine(AJg w.heap.size (w.heap.size+1) a).mono ?_;rintro e J I ⟨rfl,rfl,rfl⟩;have m:settle .returning=.returning:=rfl;simp only[m];have b:∀j,j<a.heap.size->(a.alloc (.cells #[.int .i64 0,.int .i64 0] 456)).heap[j]?=a.heap[j]?:=λj z=>IG z;obtain⟨B,C,e0,y⟩:=E;refine⟨_,l _ oc (k1.keep (b _ oa)) ⟨(GU (b _ oa) _).trans B,(GU (b _ oa) _).trans C,(OZ (b _ oa) _).trans e0,(OZ (b _ oa) _).trans y⟩,G.alloc _,d,an,al,h,p,s,sc,rfl,?_⟩;exact H.keep oh λj z A=>⟨b j A,z⟩
theorem Five.set5{w:World}{g:Nat}{a b c d e a' b' c' d' e':Value}(h:Five w g a b c d e):
 Five (((((w.setCell ⟨g,0,none⟩ a').setCell ⟨g,1,none⟩ b').setCell ⟨g,2,none⟩ c').setCell ⟨g,3,none⟩ d').setCell ⟨g,4,none⟩ e') g a' b' c' d' e':=by
 obtain⟨h0,h1,p,s,x,f0,f1,j,l,m⟩:=h;refine⟨?_,?_,?_,?_,?_,?_,?_,?_,?_,?_⟩<;>simp[go_sem,h0,h1,p,s,x,f0,f1,j,l,m]
theorem Two.set2{w:World}{g:Nat}{a b a' b':Value}(h:Two w g a b):Two ((w.setCell ⟨g,0,none⟩ a').setCell ⟨g,1,none⟩ b') g a' b':=by obtain⟨h0,h1,f0,f1⟩:=h;refine⟨?_,?_,?_,?_⟩<;>simp[go_sem,h0,h1,f0,f1]
theorem Two.keep{w w':World}{g:Nat}{a b:Value}(h:Two w g a b)(k:w'.heap[g]?=w.heap[g]?):Two w' g a b:=by obtain⟨h0,h1,f0,f1⟩:=h;exact⟨(GU k _).trans h0,(GU k _).trans h1,(OZ k _).trans f0,(OZ k _).trans f1⟩
theorem AJi{w:World}{g:Nat}{a b:Value}{el:TypeId}(h:w.heap[g]?=some (.cells #[a,b] el (0,0))):Two w g a b:=by refine⟨?_,?_,?_,?_⟩<;>simp[World.cell?,World.frozen?,h]
def w0(w:World)(s:ByteArray):World:=((w.alloc (.cells #[.int .i64 0,.string ⟨#[]⟩,.bool false,.string ⟨#[]⟩,.slice none 0 0] 399)).alloc (.cells #[.int .i64 0,.int .i64 0] 456)).alloc (.cells #[.string s,.int .i64 0,.int .i64 0,.string ⟨#[]⟩,.int .i64 0,.bool false,.int .i64 0] 499)
theorem A00(w:World)(s:ByteArray):(w0 w s).heap.size=w.heap.size+1+1+1:=by grind[w0,EX]
theorem o7(w:World)(s:ByteArray):RdAt (w0 w s) (w.heap.size+1+1) s ⟨0,0,⟨#[]⟩,0,false,0⟩:=by unfold RdAt w0;have:=MH ((w.alloc (.cells #[.int .i64 0,.string ⟨#[]⟩,.bool false,.string ⟨#[]⟩,.slice none 0 0] 399)).alloc (.cells #[.int .i64 0,.int .i64 0] 456)) (.cells #[.string s,.int .i64 0,.int .i64 0,.string ⟨#[]⟩,.int .i64 0,.bool false,.int .i64 0] 499);rw[EX,EX]at this;exact this
theorem o8{w a:World}{s:ByteArray}(h:Frm (w.heap.size+1+1) (w0 w s) a):z5 a w.heap.size/\Two a (w.heap.size+1) (.int .i64 0) (.int .i64 0)/\Frm w.heap.size w a/\w.heap.size+2<=a.heap.size:=by
 have d:=h.size;rw[A00]at d;have e:=MH w (.cells #[.int .i64 0,.string ⟨#[]⟩,.bool false,.string ⟨#[]⟩,.slice none 0 0] 399);have b:=MH (w.alloc (.cells #[.int .i64 0,.string ⟨#[]⟩,.bool false,.string ⟨#[]⟩,.slice none 0 0] 399)) (.cells #[.int .i64 0,.int .i64 0] 456);rw[EX]at b;refine⟨SC (el:=399) ?_,AJi (el:=456) ?_,?_,oa⟩
 .rw[h.heap _ (by rw[A00];omega) oa];grind[w0,IG,EX]
 .rw[h.heap _ (by rw[A00];omega) oa];grind[w0,IG,EX]
 .exact((((Frm.refl w.heap.size w).alloc _).alloc _).alloc _).under (c:=w.heap.size+1+1) h oa
theorem AJj(hN:NC)(s:ByteArray)(e:PF)(w:World)(he:O_ s (w.heap.size+1+1) 336 e)(F)(hs:s.size<=4000)(y:N3 s e=some F):
 Calls Tryz.prog 301 #[.string s] w (zZ w F):=by
 have h5:=tf;have h8:∀(fn:Fn) (first Y:Array Value) (w:World),(Instr.makeFunc fn first Y).run Tryz.prog w=.ok (.func fn first Y) w:=λ_ _ _ _=>rfl;have HN:=Lib.hid hN;have HE:=Lib.hid he;clear hN he;unfold N3 at y;cases X:FQ s 0 0 with
 |error a=>
  rw[X]at y;cases A2 y
  go_enter_defers Tryz.func301,Tryz.ntmps301
  go_wp2_with fail
  have z:=HN.out (w.heap.size+1+1) s ⟨0,0,⟨#[]⟩,0,false,0⟩ (w0 w s) hs (AS _) (o7 w s);refine z.mono ?_;intro e N b;unfold IV at b;rw[show FQ s (RS.mk 0 0 ⟨#[]⟩ 0 false 0).en (RS.mk 0 0 ⟨#[]⟩ 0 false 0).op=.error a from X]at b;obtain⟨rfl,l⟩:=b;have⟨k1,C,D,k4⟩:=o8 l;refine z_ k1 C D k4 λM p h1 U=>?_;obtain⟨c0,O,Q,R,T,f0,f1,f2,f3,f4⟩:=h1;obtain⟨A,B,e0,Z⟩:=U;have h:w.heap.size<M.heap.size:=oa;simp[results,Tryz.results301,go_sem,c0,O,Q,R,T,A,B,p,h]
 |ok r=>
  have HT:=Lib.hid X;have h4:=ND X (AS _);rw[X]at y;simp only at y;clear X;cases hE:e r with
  |none=>grind
  |some F2=>
   rw[hE]at y;have hc:=λ(W:World) (hW:RdAt W (w.heap.size+1+1) s r)=>HE.out.2.1 W r F2 hW h4 hE;have HC:=Lib.hid hc;clear hc hE;cases F2 with
   |error x=>
    obtain⟨ea,ec⟩:=x;cases A2 y
    go_enter_defers Tryz.func301,Tryz.ntmps301
    go_wp2_with fail
    have z:=HN.out (w.heap.size+1+1) s ⟨0,0,⟨#[]⟩,0,false,0⟩ (w0 w s) hs (AS _) (o7 w s);refine z.mono ?_;intro e N b;unfold IV at b;rw[show FQ s (RS.mk 0 0 ⟨#[]⟩ 0 false 0).en (RS.mk 0 0 ⟨#[]⟩ 0 false 0).op=.ok r from HT.out]at b;obtain⟨rfl,d,l⟩:=b;have m:=HC.out N d;have HC1:=Lib.hid m;have V:=d.lt;have G2:=Lib.hid l;clear z d l m
    go_wp2_with fail
    refine HC1.out.mono ?_;intro e E b;obtain⟨rfl,l⟩:=b;have⟨k1,C,D,k4⟩:=o8 (G2.out.trans l);refine z_ k1 C D k4 λM p h1 U=>?_;obtain⟨c0,O,Q,R,T,f0,f1,f2,f3,f4⟩:=h1;obtain⟨A,B,e0,Z⟩:=U;have h:w.heap.size<M.heap.size:=oa;simp[results,Tryz.results301,go_sem,c0,O,Q,R,T,A,B,p,h]
   |ok x=>
    obtain⟨t,h7,k,y0,h6,x5,x4⟩:=x;simp only at y;by_cases hk:k=0
    .subst hk;rw[if_neg oh]at y;cases A2 y
     go_enter_defers Tryz.func301,Tryz.ntmps301
     go_wp2_with fail
     have z:=HN.out (w.heap.size+1+1) s ⟨0,0,⟨#[]⟩,0,false,0⟩ (w0 w s) hs (AS _) (o7 w s);refine z.mono ?_;intro e N b;unfold IV at b;rw[show FQ s (RS.mk 0 0 ⟨#[]⟩ 0 false 0).en (RS.mk 0 0 ⟨#[]⟩ 0 false 0).op=.ok r from HT.out]at b;obtain⟨rfl,d,l⟩:=b;have m:=HC.out N d;have HC1:=Lib.hid m;have V:=d.lt;have G2:=Lib.hid l;clear z d l m
     go_wp2_with fail
     refine HC1.out.mono ?_;intro e E b;obtain⟨v,rfl,⟨G,an,al,H,L,K,J,rfl,ht⟩,d,l⟩:=b;obtain⟨q0,q1,q2,q3,q4,q5,q6,qf⟩:=d.cell;simp only at q1 q2 q3 q4 q5 q6;have⟨k1,C,D,k4⟩:=o8 (G2.out.trans l);have K1:=Lib.hid k1;have K2:=Lib.hid C;have h:w.heap.size<E.heap.size:=oa;have I:w.heap.size+1<E.heap.size:=oa;obtain⟨r0,r1,r2,r3,r4,p0,p1,p2,p3,p4⟩:=k1;obtain⟨A,B,e0,Z⟩:=C;have h3:=d.lt;have HK3:=Lib.hid D;have HTr:=Lib.hid ht;clear d l ht qf D
     go_wp2_with fail
     have FA:=L_ (w:=E) (g:=w.heap.size) (a':=.int .i64 G) (b':=.string an) (c':=.bool al) (d':=.string H) (e':=.slice L K J);have FB:=L_ (w:=_) (g:=w.heap.size) (a':=.int .i64 G) (b':=.string an) (c':=.bool al) (d':=.string H) (e':=.slice L K J)|> FA.trans;have FC:=AJ6 (w:=(((((((((E.setCell ⟨w.heap.size,0,none⟩ (.int .i64 G)).setCell ⟨w.heap.size,1,none⟩ (.string an)).setCell ⟨w.heap.size,2,none⟩ (.bool al)).setCell ⟨w.heap.size,3,none⟩ (.string H)).setCell ⟨w.heap.size,4,none⟩ (.slice L K J)).setCell ⟨w.heap.size,0,none⟩ (.int .i64 G)).setCell ⟨w.heap.size,1,none⟩ (.string an)).setCell ⟨w.heap.size,2,none⟩ (.bool al)).setCell ⟨w.heap.size,3,none⟩ (.string H)).setCell ⟨w.heap.size,4,none⟩ (.slice L K J)) (g:=w.heap.size+1) (a':=.int .i64 0) (b':=.int .i64 0);have K1':=(K1.out.set5 (a':=.int .i64 G) (b':=.string an) (c':=.bool al) (d':=.string H) (e':=.slice L K J)).set5 (a':=.int .i64 G) (b':=.string an) (c':=.bool al) (d':=.string H) (e':=.slice L K J);have x1:=FB.size;have x2:=FC.size;have h9:w.heap.size+1+1<N.heap.size:=V;refine AJh (K1'.keep (FC.heap _ oa oa)) ((K2.out.keep (FB.heap _ oa oa)).set2) ((HK3.out.trans FB).under FC oa) oa ?_ λM p h1 U=>?_
     .refine HTr.out.keep oa λj hj p=>?_;have hj:N.heap.size<=j:=hj;exact⟨(FC.heap j oa oa).trans (FB.heap j oa oa),oa⟩
     .obtain⟨c0,O,Q,R,T,f0,f1,f2,f3,f4⟩:=h1;obtain⟨A,B,e0,Z⟩:=U;have h:w.heap.size<M.heap.size:=oa;simp[results,Tryz.results301,go_sem,c0,O,Q,R,T,A,B,p,h]
    .rw[if_pos hk]at y;cases A2 y;have k5:(k==0)=false:=by simp[hk]
     have x3:(k !=0)=true:=by simp[hk]
     clear hk
     go_enter_defers Tryz.func301,Tryz.ntmps301
     go_wp2_with fail
     have z:=HN.out (w.heap.size+1+1) s ⟨0,0,⟨#[]⟩,0,false,0⟩ (w0 w s) hs (AS _) (o7 w s);refine z.mono ?_;intro e N b;unfold IV at b;rw[show FQ s (RS.mk 0 0 ⟨#[]⟩ 0 false 0).en (RS.mk 0 0 ⟨#[]⟩ 0 false 0).op=.ok r from HT.out]at b;obtain⟨rfl,d,l⟩:=b;have m:=HC.out N d;have HC1:=Lib.hid m;have V:=d.lt;have G2:=Lib.hid l;clear z d l m
     go_wp2_with fail
     refine HC1.out.mono ?_;intro e E b;obtain⟨v,rfl,⟨G,an,al,H,L,K,J,rfl,ht⟩,d,l⟩:=b;obtain⟨q0,q1,q2,q3,q4,q5,q6,qf⟩:=d.cell;simp only at q1 q2 q3 q4 q5 q6;have⟨k1,C,D,k4⟩:=o8 (G2.out.trans l);have K1:=Lib.hid k1;have K2:=Lib.hid C;have h:w.heap.size<E.heap.size:=oa;have I:w.heap.size+1<E.heap.size:=oa;obtain⟨r0,r1,r2,r3,r4,p0,p1,p2,p3,p4⟩:=k1;obtain⟨A,B,e0,Z⟩:=C;have h3:=d.lt;have HK3:=Lib.hid D;clear d l ht qf D
     go_wp2_with (refine(WU _ _ _).mono ?_;intro e M hh;obtain⟨rfl,hw⟩:=hh;replace hw:=hw.symm;subst hw)
     have FA:=L_ (w:=E) (g:=w.heap.size) (a':=.int .i64 G) (b':=.string an) (c':=.bool al) (d':=.string H) (e':=.slice L K J);have x0:=FA.size;refine z_ (K1.out.set5) (K2.out.keep (FA.heap _ I oa)) (HK3.out.trans FA) oa λM p h1 U=>?_;obtain⟨c0,O,Q,R,T,f0,f1,f2,f3,f4⟩:=h1;obtain⟨A,B,e0,Z⟩:=U;have h:w.heap.size<M.heap.size:=oa;simp[results,Tryz.results301,go_sem,c0,O,Q,R,T,A,B,p,h]
theorem A6O:∀(b:List Tr) (d:Int) (a:Int×Int),1<=a.1->a.1<=201->(∀t∈b,1<=(IM t (d+1)).1)->1<=(L4 b d a).1/\(L4 b d a).1<=201:=by intro b;induction b<;>grind[L4]
theorem AJk:∀(b:List Tr) (t:Tr) (d:Int) (a:Int×Int),L4 (b++[t]) d a=(min ((L4 b d a).1+(IM t (d+1)).1) 201,max (L4 b d a).2 (IM t (d+1)).2):=by intro b;induction b<;>simp_all[CZ,L4,List.cons_append]
theorem AJl{S:Nat->Prop}{w:World}{t:Tr}{v:List Value}(h:TrAt S w t v):∀d,1<=(IM t d).1/\(IM t d).1<=201:=by
 induction h with
 |leaf k n l x=>grind[IM,L4]
 |node k n l x a g b B s j y z A hk p=>
  intro d;rw[IM];split
  .simp
  .refine A6O a d _ oh oh λt m=>?_;have⟨i,hi⟩:=BN m;have e:i<a.length:=(A3.1 hi).1;exact(p i t _ hi (A1 oa) (d+1)).1
inductive Few:Tr->Prop
 |mk (k:Int) (n:ByteArray) (l:Bool) (x:ByteArray) (kids:List Tr) (h:kids.length<=5000) (hk:∀t∈kids,Few t):Few (.node k n l x kids)
def o9(w':World)(t:Tr)(d:Int)(e:Ending)(w'':World):Prop:=e=.returned (.tuple #[.int .i64 (IM t d).1,.int .i64 (IM t d).2])/\Frm w'.heap.size w' w''
theorem A6P(k:Int)(n:ByteArray)(l:Bool)(x:ByteArray)(a:List Tr)(so:Option Addr)(sc:Nat)(w':World)(d:Int)(h0:0<=d)(h3:d<=31)(h2:a.length<=5000)(h5:a.length<=sc)
 (z:∀t∈a,1<=(IM t (d+1)).1/\(IM t (d+1)).1<=201)
 (b:d<=30->∀ (i:Nat) (t:Tr),a[i]? = some t->∃ (g:Nat) (G:Int) (an:ByteArray) (al:Bool) (H:ByteArray) (y:Option Addr) (p s:Nat),so=some ⟨g,0,none⟩/\g<w'.heap.size/\(w'.cell? ⟨g,i*5+0,none⟩=some (.int .i64 G)/\w'.cell? ⟨g,i*5+1,none⟩=some (.string an)/\w'.cell? ⟨g,i*5+2,none⟩=some (.bool al) /\
  w'.cell? ⟨g,i*5+3,none⟩=some (.string H)/\w'.cell? ⟨g,i*5+4,none⟩=some (.slice y p s))/\∀wr,Frm w'.heap.size w' wr->Calls Tryz.prog 338 #[.agg #[.int .i64 G,.string an,.bool al,.string H,.slice y p s],.int .i64 (d+1)] wr (o9 wr t (d+1))):
 Calls Tryz.prog 338 #[.agg #[.int .i64 k,.string n,.bool l,.string x,.slice so a.length sc],.int .i64 d] w' (o9 w' (.node k n l x a) d):=by
 have R:=tf;have HK:=Lib.hid b;have HB:=Lib.hid z;clear b z;by_cases Z:30<d
 .have HM:=Lib.hid (show IM (.node k n l x a) d=(1,d) by rw[IM,if_pos Z]);have h4:¬d<=30:=oa;go_enter Tryz.func338,Tryz.ntmps338
  go_wp2_with fail
  refine bodyPost_ret (v:=.tuple #[.int .i64 1,.int .i64 d]) (by simp[results,Tryz.results338,go_sem]) rfl ⟨by rw[HM.out],(Frm.refl _ w').alloc _⟩
 .have HM:=Lib.hid (show IM (.node k n l x a) d=L4 a d (1,d) by rw[IM,if_neg Z]);have K:d<=30:=oa;have HK2:=Lib.hid (HK.out K);go_enter Tryz.func338,Tryz.ntmps338
  go_wp2_with fail
  go_loopw [18,4,5] (λi c m wr=>∃q:Nat,q<=a.length/\i=.int .i64 q/\c=.int .i64 (L4 (a.take q) d (1,d)).1/\m=.int .i64 (L4 (a.take q) d (1,d)).2/\Frm w'.heap.size w' wr) (λi _ _ _=>a.length-(RowKit.intOf i).toNat)
  case atStart=>exact⟨0,AS _,rfl,rfl,rfl,(Frm.refl _ w').alloc _⟩
  case round=>
   obtain⟨q,hq,rfl,A,C,B⟩:=hrel;obtain⟨c,I⟩:∃c,(L4 (a.take q) d (1,d)).1=c:=⟨_,rfl⟩;obtain⟨m,M⟩:∃m,(L4 (a.take q) d (1,d)).2=m:=⟨_,rfl⟩;rw[I]at A;rw[M]at C;subst A C;have HFr:=Lib.hid B;have HC:=Lib.hid I;have HMm:=Lib.hid M;clear B I M;by_cases L:q<a.length
   .obtain⟨t,E⟩:∃t,a[q]?=some t:=⟨_,A1 L⟩;obtain⟨g,G,an,al,H,y,p,s,rfl,hg,⟨c0,T,U,V,W⟩,h⟩:=HK2.out q t E;have e:=HFr.out.heap g hg oa;have d0:=(GU e _).trans c0;have d1:=(GU e _).trans T;have d2:=(GU e _).trans U;have d3:=(GU e _).trans V;have d4:=(GU e _).trans W;rw[CE]at d0;have hb:=HB.out t (AH E);have J:=A6O (a.take q) d (1,d) oh oh λt' h'=>(HB.out t' (List.mem_of_mem_take h')).1;rw[HC.out]at J;obtain⟨X,j⟩:∃X,(IM t (d+1)).1=X:=⟨_,rfl⟩;obtain⟨mt,D⟩:∃mt,(IM t (d+1)).2=mt:=⟨_,rfl⟩;rw[j]at hb;have HT:=Lib.hid E;have HCall:=Lib.hid h;have HCT:=Lib.hid j;have HMT:=Lib.hid D;clear e c0 T U V W E h j D
    go_wp2_with fail
    refine(HCall.out _ (HFr.out.alloc _)).mono ?_;intro e w2 hp;obtain⟨rfl,Y⟩:=hp;rw[HCT.out,HMT.out];have G2:=Lib.hid Y;clear Y
    go_wp2_with fail
    have Q:a.take (q+1)=a.take q++[t]:=by rw[List.take_add_one,HT.out];rfl
    have O:=AJk (a.take q) t d (1,d);rw[<-Q,HC.out,HMm.out,HCT.out,HMT.out]at O
    go_roundw
    case rel=>exact⟨q+1,oa,by go_num,by rw[O],by rw[O],(HFr.out.alloc _).under G2.out (by rw[EX];have:=HFr.out.size;omega)⟩
    case measure=>simp[RowKit.intOf];omega
   .have N:q=a.length:=oa;subst N
    go_wp2_with fail
    refine bodyPost_ret (v:=.tuple #[.int .i64 c,.int .i64 m]) (by simp[results,Tryz.results338,go_sem]) rfl ⟨?_,HFr.out⟩;rw[HM.out,<-HC.out,<-HMm.out,AQ]
theorem AJm{S:Nat->Prop}{w:World}{t:Tr}{v:List Value}(h:TrAt S w t v):Few t->∀(w':World) (d:Int),w.heap.size<=w'.heap.size->(∀j,S j->j<w.heap.size->w'.heap[j]?=w.heap[j]?)->0<=d->d<=31->
 Calls Tryz.prog 338 #[.agg v.toArray,.int .i64 d] w' (o9 w' t d):=by
 induction h with
 |leaf k n l x=>intro T w' d U hk h0 p;exact A6P k n l x [] none 0 w' d h0 p (AS _) (AS _) (λ_ h=>oq) λ_ i t h=>by simp at h
 |node k n l x m g I Q V M W hl Z B ih=>
  intro T w' d U hk h0 p;cases T with
  |mk _ _ _ _ _ C K=>
  refine A6P k n l x m (some ⟨g,0,none⟩) I w' d h0 p C W (λt Y=>?_) λhd i t hi=>?_
  .obtain⟨i,hi⟩:=BN Y;have L:i<m.length:=(A3.1 hi).1;exact AJl (B i t _ hi (A1 oa)) (d+1)
  .have L:i<m.length:=(A3.1 hi).1;have E:Q[i]?=some (Q[i]'(oa)):=A1 oa;have J:=B i t _ hi E;have a:=Z i _ E;have b:=ih i t _ hi E (K t (AH hi));have h5:=J.five;obtain⟨R,O⟩:∃R,Q[i]'(oa)=R:=⟨_,rfl⟩;rw[O]at J a b E;have N:∃(G:Int) (an:ByteArray) (al:Bool) (H:ByteArray) (z:Option Addr) (y s:Nat),R=[.int .i64 G,.string an,.bool al,.string H,.slice z y s]:=by cases J<;>exact⟨_,_,_,_,_,_,_,rfl⟩
   obtain⟨G,an,al,H,z,y,s,rfl⟩:=N;have e:=hk g V M;refine⟨g,G,an,al,H,z,y,s,rfl,oa,⟨(GU e _).trans (a 0 _ rfl),(GU e _).trans (a 1 _ rfl),(GU e _).trans (a 2 _ rfl),(GU e _).trans (a 3 _ rfl),(GU e _).trans (a 4 _ rfl)⟩,λwr A=>?_⟩;exact b wr (d+1) (AM U A.size) (λj X D=>(A.heap j oa oa).trans (hk j X D)) oa oa
def oA(w':World)(t:Tr)(e:Ending)(w'':World):Prop:=e=.returned (.int .i64 (N4 t))/\Frm w'.heap.size w' w''
theorem A01{x:ByteArray}:(x.toList==([]:List UInt8))=decide (x=⟨#[]⟩):=by have:=zW (x:=x) (y:=⟨#[]⟩);simpa using this
theorem A6Q(k:Int)(n:ByteArray)(l:Bool)(x:ByteArray)(a:List Tr)(so:Option Addr)(sc:Nat)(w':World)(h7:a.length<=5000)(h9:a.length<=sc)(hn:n.size<=4000)(hx:x.size<=4000)
 (A:∀ (i:Nat) (t:Tr),a[i]? = some t->∃ (g:Nat) (X:Int) (an:ByteArray) (al:Bool) (Y:ByteArray) (H:Option Addr) (G E:Nat),so=some ⟨g,0,none⟩/\g<w'.heap.size/\(w'.cell? ⟨g,i*5+0,none⟩=some (.int .i64 X)/\w'.cell? ⟨g,i*5+1,none⟩=some (.string an)/\w'.cell? ⟨g,i*5+2,none⟩=some (.bool al) /\
  w'.cell? ⟨g,i*5+3,none⟩=some (.string Y)/\w'.cell? ⟨g,i*5+4,none⟩=some (.slice H G E))/\∀wr,Frm w'.heap.size w' wr->Calls Tryz.prog 339 #[.agg #[.int .i64 X,.string an,.bool al,.string Y,.slice H G E]] wr (oA wr t)):
 Calls Tryz.prog 339 #[.agg #[.int .i64 k,.string n,.bool l,.string x,.slice so a.length sc]] w' (oA w' (.node k n l x a)):=by
 have h5:=tf;have HK:=Lib.hid A;clear A;obtain⟨v,hv⟩:∃v,N4 (.node k n l x a)=v:=⟨_,rfl⟩;have h:=hv;rw[N4]at h;have HV:=Lib.hid hv;clear hv;by_cases p:k<1\/3<k
 .rw[if_pos p]at h;subst h;by_cases h1:k<1
  .go_enter Tryz.func339,Tryz.ntmps339
   go_wp2_with fail
   refine bodyPost_ret (v:=.int .i64 7) (by simp[results,Tryz.results339,go_sem]) rfl ⟨by rw[HV.out],(Frm.refl _ w').alloc _⟩
  .have h3:3<k:=oa;have h8:1<=k:=oa;go_enter Tryz.func339,Tryz.ntmps339
   go_wp2_with fail
   refine bodyPost_ret (v:=.int .i64 7) (by simp[results,Tryz.results339,go_sem]) rfl ⟨by rw[HV.out],(Frm.refl _ w').alloc _⟩
 .rw[if_neg p]at h;have h1:1<=k:=oa;have h3:k<=3:=oa;clear p;by_cases hk:k=1
  .subst hk;rw[if_pos rfl]at h;by_cases Z:0<a.length
   .rw[if_pos Z]at h;subst h;go_enter Tryz.func339,Tryz.ntmps339
    go_wp2_with fail
    refine bodyPost_ret (v:=.int .i64 2) (by simp[results,Tryz.results339,go_sem]) rfl ⟨by rw[HV.out],(Frm.refl _ w').alloc _⟩
   .rw[if_neg Z]at h;have h2:a.length=0:=oa;rw[h2];clear Z;have Q:=λ(W:World)=>zT n W hn;have R:=λ(W:World)=>zT x W hx;have HW1:=Lib.hid Q;have HW2:=Lib.hid R;clear Q R;cases B:H8 n with
    |false=>
     rw[if_pos (.inl B)]at h;subst h;rw[B]at HW1;go_enter Tryz.func339,Tryz.ntmps339;clear B
     go_wp2_with fail
     refine(HW1.out _).mono ?_;intro e U m;obtain⟨rfl,d⟩:=m;replace d:=d.symm;subst d
     go_wp2_with fail
     refine bodyPost_ret (v:=.int .i64 8) (by simp[results,Tryz.results339,go_sem]) rfl ⟨by rw[HV.out],(Frm.refl _ w').alloc _⟩
    |true=>
     rw[B]at HW1;by_cases j:x=⟨#[]⟩
     .rw[if_neg oc]at h;subst h j;clear B;go_enter Tryz.func339,Tryz.ntmps339
      go_wp2_with fail
      refine(HW1.out _).mono ?_;intro e U m;obtain⟨rfl,d⟩:=m;replace d:=d.symm;subst d
      go_wp2_with fail
      refine bodyPost_ret (v:=.int .i64 0) (by simp[results,Tryz.results339,go_sem]) rfl ⟨by rw[HV.out],(Frm.refl _ w').alloc _⟩
     .have y:(x.toList==([]:List UInt8))=false:=by rw[A01];simp[j]
      have M:(x.toList !=([]:List UInt8))=true:=by rw[bne,y];rfl
      cases K:H8 x with
      |false=>
       rw[if_pos (.inr ⟨j,K⟩)]at h;rw[K]at HW2;subst h;clear B K j;go_enter Tryz.func339,Tryz.ntmps339
       go_wp2_with fail
       refine(HW1.out _).mono ?_;intro e U m;obtain⟨rfl,d⟩:=m;replace d:=d.symm;subst d
       go_wp2_with fail
       refine(HW2.out _).mono ?_;intro e U m;obtain⟨rfl,d⟩:=m;replace d:=d.symm;subst d
       go_wp2_with fail
       refine bodyPost_ret (v:=.int .i64 8) (by simp[results,Tryz.results339,go_sem]) rfl ⟨by rw[HV.out],(Frm.refl _ w').alloc _⟩
      |true=>
       rw[if_neg oc]at h;rw[K]at HW2;subst h;clear B K j;go_enter Tryz.func339,Tryz.ntmps339
       go_wp2_with fail
       refine(HW1.out _).mono ?_;intro e U m;obtain⟨rfl,d⟩:=m;replace d:=d.symm;subst d
       go_wp2_with fail
       refine(HW2.out _).mono ?_;intro e U m;obtain⟨rfl,d⟩:=m;replace d:=d.symm;subst d
       go_wp2_with fail
       refine bodyPost_ret (v:=.int .i64 0) (by simp[results,Tryz.results339,go_sem]) rfl ⟨by rw[HV.out],(Frm.refl _ w').alloc _⟩
  .rw[if_neg hk]at h;have k1:(k==1)=false:=by simp[hk]
   clear hk;by_cases z:n=⟨#[]⟩
   .subst z;cases l with
    |true=>
     rw[if_pos (.inr (.inl rfl))]at h;subst h;go_enter Tryz.func339,Tryz.ntmps339
     go_wp2_with fail
     refine bodyPost_ret (v:=.int .i64 2) (by simp[results,Tryz.results339,go_sem]) rfl ⟨by rw[HV.out],(Frm.refl _ w').alloc _⟩
    |false=>
     by_cases j:x=⟨#[]⟩
     .subst j;by_cases O:a.length<2
      .rw[if_pos (.inr (.inr (.inr O)))]at h;subst h;go_enter Tryz.func339,Tryz.ntmps339
       go_wp2_with fail
       refine bodyPost_ret (v:=.int .i64 2) (by simp[results,Tryz.results339,go_sem]) rfl ⟨by rw[HV.out],(Frm.refl _ w').alloc _⟩
      .rw[if_neg ot]at h;have h6:2<=a.length:=oa;have HL:=Lib.hid h;clear h O;go_enter Tryz.func339,Tryz.ntmps339
       go_wp2_with fail
       go_loopw [59] (λi wr=>∃q:Nat,q<=a.length/\i=.int .i64 q/\Q0 (a.drop q)=v/\Frm w'.heap.size w' wr) (λi _=>a.length-(RowKit.intOf i).toNat)
       case atStart=>exact⟨0,AS _,rfl,HL.out,(Frm.refl _ w').alloc _⟩
       case round=>
        obtain⟨q,hq,rfl,b,N⟩:=hrel;have HFr:=Lib.hid N;have HCl:=Lib.hid b;clear N b;by_cases D:q<a.length
        .obtain⟨t,V⟩:∃t,a[q]?=some t:=⟨_,A1 D⟩;obtain⟨g,X,an,al,Y,H,G,E,rfl,hg,⟨c0,c1,c2,c3,c4⟩,s⟩:=HK.out q t V;have e:=HFr.out.heap g hg oa;have d0:=(GU e _).trans c0;have d1:=(GU e _).trans c1;have d2:=(GU e _).trans c2;have d3:=(GU e _).trans c3;have d4:=(GU e _).trans c4;rw[CE]at d0;have L:a.drop q=t::a.drop (q+1):=by rw[BD D];rw[A1 D]at V;rw[A2 V]
         have b:=HCl.out;rw[L,Q0]at b;obtain⟨I,C⟩:∃I,N4 t=I:=⟨_,rfl⟩;rw[C]at b;have HCT:=Lib.hid C;have HCall:=Lib.hid s;clear e c0 c1 c2 c3 c4 V s C L;by_cases T:I=0
         .subst T;rw[if_neg oh]at b;have HCn:=Lib.hid b;clear b
          go_wp2_with fail
          refine(HCall.out _ (HFr.out.alloc _)).mono ?_;intro e w2 m;obtain⟨rfl,J⟩:=m;rw[HCT.out];have G2:=Lib.hid J;clear J
          go_wp2_with fail
          go_roundw
          case rel=>exact⟨q+1,oa,by go_num,HCn.out,(HFr.out.alloc _).under G2.out (by rw[EX];have:=HFr.out.size;omega)⟩
          case measure=>simp[RowKit.intOf];omega
         .rw[if_pos T]at b;subst b;have z1:(I==0)=false:=by simp[T]
          have z2:(I !=0)=true:=by simp[T]
          clear T
          go_wp2_with fail
          refine(HCall.out _ (HFr.out.alloc _)).mono ?_;intro e w2 m;obtain⟨rfl,J⟩:=m;rw[HCT.out];have G2:=Lib.hid J;clear J
          go_wp2_with fail
          refine bodyPost_ret (v:=.int .i64 I) (by simp[results,Tryz.results339,go_sem]) rfl ⟨by rw[HV.out],(HFr.out.alloc _).under G2.out (by rw[EX];have:=HFr.out.size;omega)⟩
        .have h4:q=a.length:=oa;subst h4;have b:=HCl.out;rw[List.drop_length,Q0]at b;subst b
         go_wp2_with fail
         refine bodyPost_ret (v:=.int .i64 0) (by simp[results,Tryz.results339,go_sem]) rfl ⟨by rw[HV.out],HFr.out⟩
     .have y:(x.toList==([]:List UInt8))=false:=by rw[A01];simp[j]
      have M:(x.toList !=([]:List UInt8))=true:=by rw[bne,y];rfl
      rw[if_pos (.inr (.inr (.inl j)))]at h;subst h;clear j;go_enter Tryz.func339,Tryz.ntmps339
      go_wp2_with fail
      refine bodyPost_ret (v:=.int .i64 2) (by simp[results,Tryz.results339,go_sem]) rfl ⟨by rw[HV.out],(Frm.refl _ w').alloc _⟩
   .have y:(n.toList==([]:List UInt8))=false:=by rw[A01];simp[z]
    have M:(n.toList !=([]:List UInt8))=true:=by rw[bne,y];rfl
    rw[if_pos (.inl z)]at h;subst h;clear z;go_enter Tryz.func339,Tryz.ntmps339
    go_wp2_with fail
    refine bodyPost_ret (v:=.int .i64 2) (by simp[results,Tryz.results339,go_sem]) rfl ⟨by rw[HV.out],(Frm.refl _ w').alloc _⟩
inductive Short:Tr->Prop
 |mk (k:Int) (n:ByteArray) (l:Bool) (x:ByteArray) (kids:List Tr) (hn:n.size<=4000) (hx:x.size<=4000) (hk:∀t∈kids,Short t):Short (.node k n l x kids)
theorem AJn{S:Nat->Prop}{w:World}{t:Tr}{v:List Value}(h:TrAt S w t v):Few t->Short t->∀(w':World),w.heap.size<=w'.heap.size->(∀j,S j->j<w.heap.size->w'.heap[j]?=w.heap[j]?)->
 Calls Tryz.prog 339 #[.agg v.toArray] w' (oA w' t):=by
 induction h with
 |leaf k n l x=>
  intro U M w' V hk;cases M with
  |mk _ _ _ _ _ L m C=>
  exact A6Q k n l x [] none 0 w' (AS _) (AS _) L m λi t h=>by simp at h
 |node k n l x d g H Q W K X hl hx J ih=>
  intro U M w' V hk;cases U with
  |mk _ _ _ _ _ A I=>
  cases M with
  |mk _ _ _ _ _ L m C=>
  refine A6Q k n l x d (some ⟨g,0,none⟩) H w' A X L m λi t hi=>?_;have Y:i<d.length:=(A3.1 hi).1;have D:Q[i]?=some (Q[i]'(oa)):=A1 oa;have T:=J i t _ hi D;have a:=hx i _ D;have b:=ih i t _ hi D (I t (AH hi)) (C t (AH hi));obtain⟨R,O⟩:∃R,Q[i]'(oa)=R:=⟨_,rfl⟩;rw[O]at T a b D;have N:∃(E:Int) (an:ByteArray) (al:Bool) (G:ByteArray) (y:Option Addr) (p s:Nat),R=[.int .i64 E,.string an,.bool al,.string G,.slice y p s]:=by cases T<;>exact⟨_,_,_,_,_,_,_,rfl⟩
  obtain⟨E,an,al,G,y,p,s,rfl⟩:=N;have e:=hk g W K;refine⟨g,E,an,al,G,y,p,s,rfl,oa,⟨(GU e _).trans (a 0 _ rfl),(GU e _).trans (a 1 _ rfl),(GU e _).trans (a 2 _ rfl),(GU e _).trans (a 3 _ rfl),(GU e _).trans (a 4 _ rfl)⟩,λwr z=>?_⟩;exact b wr (AM V z.size) (λj Z B=>(z.heap j oa oa).trans (hk j Z B))
theorem AJo{S:Nat->Prop}{w:World}{t:Tr}{z:Int}{an:ByteArray}{al:Bool}{A:ByteArray}{J:Option Addr}{I sc:Nat}(h:TrAt S w t [.int .i64 z,.string an,.bool al,.string A,.slice J I sc])(O:Few t)(V:Short t)(w':World)(R:w.heap.size<=w'.heap.size)
 (hk:∀j,S j->j<w.heap.size->w'.heap[j]?=w.heap[j]?):
 Calls Tryz.prog 302 #[.agg #[.int .i64 z,.string an,.bool al,.string A,.slice J I sc]] w' λe K=>e=.returned (.int .i64 (QA t))/\Frm w'.heap.size w' K:=by
 have H:=tf;have Q:=λ(W:World) (a:Frm w'.heap.size w' W) (l:∀j,S j->j<w.heap.size->W.heap[j]?=w.heap[j]?)=>AJm h O W 1 (AM R a.size) l oa oa;have x:=λ(W:World) (a:Frm w'.heap.size w' W) (l:∀j,S j->j<w.heap.size->W.heap[j]?=w.heap[j]?)=>AJn h O V W (AM R a.size) l;have l:=λ(W:World) (a:Frm w'.heap.size w' W) (j:Nat) (h1:S j) (D:j<w.heap.size)=>(a.heap j oa oa).trans (hk j h1 D);have HM:=Lib.hid (λ(W:World) (a:Frm w'.heap.size w' W)=>Q W a (l W a));have HC:=Lib.hid (λ(W:World) (a:Frm w'.heap.size w' W)=>x W a (l W a));clear Q x l hk h;unfold o9 at HM;unfold oA at HC;obtain⟨E,m⟩:∃c,(IM t 1).1=c:=⟨_,rfl⟩;obtain⟨G,p⟩:∃c,(IM t 1).2=c:=⟨_,rfl⟩;obtain⟨L,d⟩:∃c,N4 t=c:=⟨_,rfl⟩;have N:QA t=if 30<G\/200<E then 3 else L:=by unfold QA;rw[m,p,d]
 rw[m,p]at HM;rw[d]at HC;rw[N];clear m p d N;by_cases h1:30<G
 .rw[if_pos (.inl h1)];go_enter Tryz.func302,Tryz.ntmps302
  go_wp2_with fail
  refine(HM.out _ ((Frm.refl _ w').alloc _)).mono ?_;intro e y s;obtain⟨rfl,b⟩:=s;have G2:=Lib.hid b;clear b
  go_wp2_with fail
  refine bodyPost_ret (v:=.int .i64 3) (by simp[results,Tryz.results302,go_sem]) rfl ⟨rfl,((Frm.refl _ w').alloc _).under G2.out (by rw[EX];omega)⟩
 .have T:G<=30:=oa;by_cases D:200<E
  .rw[if_pos (.inr D)];go_enter Tryz.func302,Tryz.ntmps302
   go_wp2_with fail
   refine(HM.out _ ((Frm.refl _ w').alloc _)).mono ?_;intro e y s;obtain⟨rfl,b⟩:=s;have G2:=Lib.hid b;clear b
   go_wp2_with fail
   refine bodyPost_ret (v:=.int .i64 3) (by simp[results,Tryz.results302,go_sem]) rfl ⟨rfl,((Frm.refl _ w').alloc _).under G2.out (by rw[EX];omega)⟩
  .rw[if_neg oa];have U:E<=200:=oa;go_enter Tryz.func302,Tryz.ntmps302
   go_wp2_with fail
   refine(HM.out _ ((Frm.refl _ w').alloc _)).mono ?_;intro e y s;obtain⟨rfl,b⟩:=s;have C:=((Frm.refl w'.heap.size w').alloc (.cells #[.int .i64 z,.string an,.bool al,.string A,.slice J I sc] 399)).under b (by rw[EX];omega);have B:=b.heap w'.heap.size (by rw[EX];omega) (by rw[EX];omega);rw[MH]at B;have⟨c0,Y,Z,c3,c4,_⟩:=SC B;have x:=HC.out y C;have HC2:=Lib.hid x;have FR:=Lib.hid C;have X:w'.heap.size<y.heap.size:=by have:=b.size;rw[EX]at this;omega
   clear b B x C
   go_wp2_with fail
   refine HC2.out.mono ?_;intro e w3 s;obtain⟨rfl,M⟩:=s;have G3:=Lib.hid M;clear M
   go_wp2_with fail
   refine bodyPost_ret (v:=.int .i64 L) (by simp[results,Tryz.results302,go_sem]) rfl ⟨rfl,FR.out.under G3.out oa⟩
def A6R(w:World)(F:Except (Nat×Int) Tr)(e:Ending)(w':World):Prop:=Frm w.heap.size w w'/\match F with
 | .ok t=>∃(ak:Int) (an:ByteArray) (al:Bool) (ax:ByteArray) (so:Option Addr) (sn sc:Nat),e=.returned (.tuple #[.agg #[.int .i64 ak,.string an,.bool al,.string ax,.slice so sn sc],.int .i64 0,.int .i64 0])/\
  TrAt (w.heap.size<=·) w' t [.int .i64 ak,.string an,.bool al,.string ax,.slice so sn sc]
 | .error (a,c)=>e=.returned (.tuple #[.agg #[.int .i64 0,.string ⟨#[]⟩,.bool false,.string ⟨#[]⟩,.slice none 0 0],.int .i64 a,.int .i64 c])
theorem A6S(hN:NC)(s:ByteArray)(e:PF)(he:s.size<=4000->∀b,O_ s b 336 e)(l:∀a c,N3 s e=some (.error (a,c))->c≠0)(h6:s.size<4611686018427387904)(K:∀t,N3 s e=some (.ok t)->Few t/\Short t)(w:World)(F)(d:TJ s e=some F):
 Calls Tryz.prog 241 #[.string s] w (A6R w F):=by
 have h4:=tf;unfold TJ at d;by_cases Y:4000<s.size
 .rw[if_pos Y]at d;cases A2 d;have h8:¬(s.size:Int)<=4000:=oa;have h7:(4000:Int)<(s.size:Int):=oa;go_enter Tryz.func241,Tryz.ntmps241
  go_wp2_with fail
  have m:Frm w.heap.size w _:=(Frm.refl w.heap.size w).alloc (.cells #[.int .i64 0,.string ⟨#[]⟩,.bool false,.string ⟨#[]⟩,.slice none 0 0] 399);refine bodyPost_ret (v:=.tuple #[.agg #[.int .i64 0,.string ⟨#[]⟩,.bool false,.string ⟨#[]⟩,.slice none 0 0],.int .i64 (0:Nat),.int .i64 3]) (by simp[results,Tryz.results241,go_sem]) rfl ⟨m,rfl⟩
 .rw[if_neg Y]at d;have U:s.size<=4000:=oa;cases I:N3 s e with
  |none=>rw[I]at d;cases d
  |some FR=>
   rw[I]at d;have T:=λ(W:World)=>AJj hN s e W (he U _) FR U I;have HR:=Lib.hid T;clear T;cases FR with
   |error x=>
    obtain⟨a,c⟩:=x;have y:=l a c I;cases A2 d;have c1:(c==0)=false:=by simp[y]
    have c2:(c !=0)=true:=by simp[y]
    clear y l I K he d Y;go_enter Tryz.func241,Tryz.ntmps241
    go_wp2_with fail
    refine(HR.out _).mono ?_;intro e M R;obtain⟨m,rfl⟩:=R;have H:=m.heap w.heap.size (by rw[EX];omega) (by rw[EX];omega);rw[MH]at H;have⟨k0,k1,Z,k3,k4,f0,f1,f2,f3,f4⟩:=SC H;have L:w.heap.size<M.heap.size:=by have:=m.size;rw[EX]at this;omega
    have FR:=Lib.hid m;clear m H
    go_wp2_with fail
    go_region
    all_goals
     go_wp2_with fail
     refine bodyPost_ret (v:=.tuple #[.agg #[.int .i64 0,.string ⟨#[]⟩,.bool false,.string ⟨#[]⟩,.slice none 0 0],.int .i64 a,.int .i64 c]) (by simp[results,Tryz.results241,go_sem,k0,k1,Z,k3,k4,L]) rfl ⟨?_,rfl⟩;have p:=((Frm.refl w.heap.size w).alloc (.cells #[.int .i64 0,.string ⟨#[]⟩,.bool false,.string ⟨#[]⟩,.slice none 0 0] 399)).under FR.out (by rw[EX];omega);exact(((p.trans L_).alloc _).alloc _).drew
   |ok t=>
    have⟨hf,V⟩:=K t I;simp only at d;have J:=λ(S:Nat->Prop) (w:World) (z:Int) (an:ByteArray) (al:Bool) (A:ByteArray) (G:Option Addr) (E D:Nat) (h:TrAt S w t [.int .i64 z,.string an,.bool al,.string A,.slice G E D])=>AJo h hf V;obtain⟨X,B⟩:∃c,QA t=c:=⟨_,rfl⟩;rw[B]at d J;have HCk:=Lib.hid J;clear J B l I K he Y hf V;by_cases y:X=0
    focus
     subst y;rw[if_neg oh]at d;cases A2 d;clear d
    rotate_left
    focus
     rw[if_pos y]at d;cases A2 d;have z1:(X==0)=false:=by simp[y]
     have z2:(X !=0)=true:=by simp[y]
     clear d y
    all_goals
     go_enter Tryz.func241,Tryz.ntmps241
     go_wp2_with fail
     refine(HR.out _).mono ?_;intro e M R;obtain⟨m,z,an,al,A,G,E,D,rfl,ht⟩:=R;have H:=m.heap w.heap.size (by rw[EX];omega) (by rw[EX];omega);rw[MH]at H;have h5:=SC H;have L:w.heap.size<M.heap.size:=by have:=m.size;rw[EX]at this;omega
     have FR:=Lib.hid m;have H5:=Lib.hid h5;have O:=HCk.out _ _ _ _ _ _ _ _ _ ht ((M.alloc (.cells #[.int .i64 z,.string an,.bool al,.string A,.slice G E D] 399)).alloc (.cells #[.int .i64 0,.int .i64 0] 456)) (by rw[EX,EX];omega) (λj _ Q=>by rw[IG (by rw[EX];omega),IG Q]);have HCc:=Lib.hid O;have HT:=Lib.hid ht;clear m H h5 O ht
     go_wp2_with fail
     refine HCc.out.mono ?_;intro e w3 R;obtain⟨rfl,N⟩:=R;have⟨x0,x1,x2,x3,x4,y0,y1,y2,y3,y4⟩:=(SC (MH M (.cells #[.int .i64 z,.string an,.bool al,.string A,.slice G E D] 399))).keep ((N.heap M.heap.size (by rw[EX,EX];omega) (by rw[EX,EX];omega)).trans (IG (by rw[EX];omega)));have⟨k0,k1,Z,k3,k4,f0,f1,f2,f3,f4⟩:=H5.out.keep ((N.heap w.heap.size (by rw[EX,EX];omega) (by rw[EX,EX];omega)).trans ((IG (by rw[EX];omega)).trans (IG L)));have h3:=N.size;rw[EX,EX]at h3;have C:w.heap.size<w3.heap.size:=oa;have h9:M.heap.size<w3.heap.size:=oa;have G3:=Lib.hid N;clear N
     go_wp2_with fail
     have p:=(((((Frm.refl w.heap.size w).alloc (.cells #[.int .i64 0,.string ⟨#[]⟩,.bool false,.string ⟨#[]⟩,.slice none 0 0] 399)).under FR.out (by rw[EX];omega)).alloc (.cells #[.int .i64 z,.string an,.bool al,.string A,.slice G E D] 399)).alloc (.cells #[.int .i64 0,.int .i64 0] 456)).under G3.out (by rw[EX,EX];omega)
     first
      |refine bodyPost_ret (v:=.tuple #[.agg #[.int .i64 0,.string ⟨#[]⟩,.bool false,.string ⟨#[]⟩,.slice none 0 0],.int .i64 (0:Nat),.int .i64 X]) (by simp[results,Tryz.results241,go_sem,k0,k1,Z,k3,k4,C]) rfl ⟨p.trans L_,rfl⟩
      | (have F5:=L_ (w:=w3) (g:=w.heap.size) (a':=.int .i64 z) (b':=.string an) (c':=.bool al) (d':=.string A) (e':=.slice G E D)
         refine bodyPost_ret (v:=.tuple #[.agg #[.int .i64 z,.string an,.bool al,.string A,.slice G E D],.int .i64 0,.int .i64 0]) (by simp[results,Tryz.results241,go_sem,k0,k1,Z,k3,k4,C]) rfl ⟨p.trans L_,z,an,al,A,G,E,D,rfl,HT.out.keep (by have:=F5.size;omega) λj Q h2=>?_⟩;have Q:(w.alloc _).heap.size<=j:=Q;rw[EX]at Q;refine⟨(F5.heap j oa oa).trans ((G3.out.heap j (by rw[EX,EX];omega) (by rw[EX,EX];omega)).trans ((IG (by rw[EX];omega)).trans (IG h2))),by show w.heap.size<=j;omega⟩)
def KT(d:Nat)(r:RS):Prop:=0<=r.op/\r.op<=30/\31-r.op<=d
structure GoodP(s:ByteArray)(d:Nat)(P:PF):Prop where
 tot:∀r,r.en<=s.size->r.tx.size<=4000->KT d r->∃F,P r=some F
 mono:∀r t r',r.en<=s.size->r.tx.size<=4000->KT d r->P r=some (.ok (t,r'))->r.en<=r'.en/\r'.en<=s.size/\r'.op=r.op/\r'.tx.size<=4000
 zero:∀r x,r.k=0->P r≠some (.ok x)
 err:∀r a c,P r=some (.error (a,c))->c=3\/c=6
 few:∀r t r',r.en<=s.size->r.tx.size<=4000->KT d r->P r=some (.ok (t,r'))->Few t/\Short t
theorem A6T{s:ByteArray}{a b:Nat}(h:s.size<=4000):(s.extract a b).size<=4000:=by rw[CG];omega
theorem AJp(t:ByteArray):(RW t).size=t.size:=by unfold RW;show(List.toArray _).size=_;rw[B7,Lib.toUpperA,B2];simp
theorem WY{s:ByteArray}(a:s.size<=4000){en:Nat}{op:Int}{r:RS}(h:FQ s en op=.ok r):en<=r.en/\r.op=op/\r.tx.size<=4000/\(r.k=0\/en<r.en):=by
 have h1:=nZ (l:=s.data.toList) (k:=en);unfold FQ at h;split at h
 .cases h;exact⟨AD _,rfl,AS _,.inl rfl⟩
 .split at h
  .split at h
   .cases h;exact⟨oc,rfl,AS _,.inr oc⟩
   .split at h
    .cases h;exact⟨oc,rfl,AS _,.inr oc⟩
    .split at h
     .cases h;exact⟨oc,rfl,AS _,.inr oc⟩
     .cases h
  .next b=>
   split at h
   .cases h;exact⟨oc,rfl,by grind[RW,AJp,A6T],.inr oc⟩
   .split at h
    .cases h;exact⟨oc,rfl,A6T a,.inr oc⟩
    .cases h
theorem A02{s word:ByteArray}(l:s.size<=4000){r e:RS}{x:Bool}(h:IU s word r=.ok (x,e))(m:r.tx.size<=4000):r.en<=e.en/\e.op=r.op/\e.tx.size<=4000/\(x=true->e.k=0\/r.en<e.en):=by
 unfold IU at h;split at h
 .grind
 .split at h
  .next j=>
   cases h;have⟨a,b,c,d⟩:=WY l j;omega
  .cases h
theorem oB{s word:ByteArray}{r:RS}{a:Nat}{c:Int}(h:IU s word r=.error (a,c)):c=3\/c=6:=by unfold IU at h;grind
theorem A6U{s:ByteArray}(j:s.size<=4000){r d:RS}{x:ByteArray}(h:J1 s r=.ok (x,d))(l:r.tx.size<=4000):r.en<=d.en/\d.op=r.op/\d.tx.size<=4000/\x.size<=4000/\r.k≠0:=by
 unfold J1 at h;split at h
 .cases h
 .next hk=>
  split at h
  .next e=>
   cases h;have⟨a,b,c,_⟩:=WY j e;omega
  .cases h
theorem oC{s:ByteArray}{r:RS}{a:Nat}{c:Int}(h:J1 s r=.error (a,c)):c=3\/c=6:=by unfold J1 at h;grind
theorem AJq{s word:ByteArray}(K:s.size<=4000){d:Nat}{w:PF}(g:GoodP s d w):∀(m:Nat) (a:List Tr) (r:RS),r.en<=s.size->r.tx.size<=4000->KT d r->s.size-r.en<m->a.length+m<=5000->(∀t∈a,Few t/\Short t)->
 ∃F,K8 s word w m a r=some F/\match F with
  | .error (_,c)=>c=3\/c=6
  | .ok (k,r')=>r.en<=r'.en/\r'.en<=s.size/\r'.op=r.op/\r'.tx.size<=4000/\k.length<=5000/\∀t∈k,Few t/\Short t:=by
 intro m;induction m with
 |zero=>omega
 |succ m O=>
  intro a r B C I V hk l;unfold K8;cases z:IU s word r with
  |error e=>exact⟨_,rfl,oB z⟩
  |ok x=>
   obtain⟨b,G⟩:=x;have⟨i1,M,D,N⟩:=A02 K z C;have E:=U4 z B;cases b with
   |false=>grind
   |true=>
    have j:KT d G:=by unfold KT at *;rw[M];exact I
    have⟨F,p⟩:=g.tot G E D j;simp only;rw[p];cases F with
    |error e=>exact⟨_,rfl,g.err _ _ _ p⟩
    |ok y=>
     obtain⟨t,H⟩:=y;have⟨W,Q,R,T⟩:=g.mono _ _ _ E D j p;have J:r.en<G.en:=by
      rcases N rfl with h|h
      .exact absurd p (g.zero _ _ h)
      .exact h
     have A:KT d H:=by unfold KT at *;rw[R];exact j
     obtain ⟨F,h1,U⟩:=O (a++[t]) H Q T A oa (by simp; omega) (λX L=>by
      rcases AZ.1 L with h|h
      .exact l _ h
      .rw[AP.1 h];exact g.few _ _ _ E D j p)
     grind
theorem AJr{s word:ByteArray}{d:PF}(g:∀r a c,d r=some (.error (a,c))->c=3\/c=6):∀(m:Nat) (b:List Tr) (r:RS) (a:Nat) (c:Int),K8 s word d m b r=some (.error (a,c))->c=3\/c=6:=by intro m;induction m<;>grind[K8,oB]
theorem AJs{s word:ByteArray}{b:PF}(g:∀r a c,b r=some (.error (a,c))->c=3\/c=6){kind:Int}{m:Nat}{r:RS}{a:Nat}{c:Int}(h:J2 s kind word b m r=some (.error (a,c))):c=3\/c=6:=by grind[J2,AJr]
theorem oD{s word:ByteArray}(K:s.size<=4000){d:Nat}{j:PF}(g:GoodP s d j){kind:Int}{m:Nat}(O:s.size<m)(J:m<=4500):GoodP s d (J2 s kind word j m):=by
 have key:∀r,r.en<=s.size->r.tx.size<=4000->KT d r->∃F,J2 s kind word j m r=some F/\match F with
  | .error (_,c)=>c=3\/c=6
  | .ok (t,w)=>r.en<=w.en/\w.en<=s.size/\w.op=r.op/\w.tx.size<=4000/\Few t/\Short t:=by
  intro r l p B;unfold J2;have⟨F,A⟩:=g.tot r l p B;rw[A];cases F with
  |error e=>exact⟨_,rfl,g.err _ _ _ A⟩
  |ok y=>
   obtain⟨t,D⟩:=y;have⟨Q,L,M,N⟩:=g.mono _ _ _ l p B A;have I:=g.few _ _ _ l p B A;simp only;by_cases H:D.k≠2\/D.tx≠word
   .grind
   .rw[if_neg H];have⟨F,h1,G⟩:=AJq (word:=word) K g m [t] D L N (by grind[KT]) oa ot (λR h=>oc);rw[h1];cases F with
    |error e=>grind
    |ok z=>obtain⟨k,w⟩:=z;obtain⟨a,b,c,e,f,h⟩:=G;refine⟨_,rfl,oa,b,by rw[c,M],e,.mk _ _ _ _ _ f λt C=>(h t C).1,.mk _ _ _ _ _ (AS _) (AS _) λt C=>(h t C).2⟩
 refine⟨λr a b c=>?_,λr t w a b c h=>?_,λr x hk h=>?_,λr a c h=>?_,λr t w a b c h=>?_⟩
 .grind
 .grind
 .unfold J2 at h;cases E:j r with
  |none=>grind
  |some F=>
   rw[E]at h;cases F with
   |error e=>cases h
   |ok y=>exact g.zero r y hk E
 .exact AJs g.err h
 grind
theorem AJt{s:ByteArray}(j:s.size<=4000){r:RS}(w:r.en<=s.size)(A:r.tx.size<=4000):match JC s r with
 | .error (_,c)=>c=3\/c=6
 | .ok (t,r')=>r.en<=r'.en/\r'.en<=s.size/\r'.op=r.op/\r'.tx.size<=4000/\Few t/\Short t/\r.k≠0:=by
 unfold JC;cases p:J1 s r with
 |error e=>exact oC p
 |ok y=>
  obtain⟨n,B⟩:=y;have⟨U,E,V,G,H⟩:=A6U j p A;have I:=o6 p w;simp only;cases a:LO s B with
  |error e=>obtain⟨Y,Z⟩:=e;unfold LO at a;grind
  |ok y=>
   obtain⟨l,d⟩:=y;have K:=A6K a I;have R:B.en<=d.en/\d.op=B.op/\d.tx.size<=4000:=by
    unfold LO at a;split at a
    .split at a
     .cases a
     .next Q=>cases a;have⟨x,y,z,_⟩:=WY j Q;omega
    .grind
   obtain⟨W,J,D⟩:=R;simp only;cases b:KO s d with
   |error e=>grind[KO,oB,oC]
   |ok y=>
    obtain⟨x,C⟩:=y;have O:=A6L b K;have T:d.en<=C.en/\C.op=d.op/\C.tx.size<=4000/\x.size<=4000:=by
     unfold KO at b;split at b
     .cases b
     .next m=>cases b;have⟨x,y,z,_⟩:=A02 j m D;exact⟨x,y,z,AS _⟩
     .next m=>
      have⟨x,y,z,_⟩:=A02 j m D;have⟨x',y',z',u',_⟩:=A6U j b z;omega
    obtain⟨X,L,M,N⟩:=T;exact⟨oa,O,by rw[L,J,E],M,.mk _ _ _ _ _ (AS _) (λ_ h=>oq),.mk _ _ _ _ _ G N (λ_ h=>oq),H⟩
theorem A6V{o:Int}(h:0<=o)(a:o<=100):PZ o=o:=by grind[PZ,IntKind.wrap,IntKind.bits]
theorem AJu{s:ByteArray}(C:s.size<=4000){d:Nat}{e:PF}(g:GoodP s d e){r:RS}(z:r.en<=s.size)(H:KT (d+1) r):∃F,OS s e r=some F/\match F with
 | .error (_,c)=>c=3\/c=6
 | .ok (t,r')=>r.en<=r'.en/\r'.en<=s.size/\r'.op=r.op/\r'.tx.size<=4000/\Few t/\Short t:=by
 obtain⟨M,N,O⟩:=H;unfold OS;rw[A6V oa oa];by_cases w:30<r.op+1
 .simp_all
 .rw[if_neg w];cases B:FQ s r.en (r.op+1)with
  |error a=>simp
  |ok D=>
   have⟨J,E,m,_⟩:=WY C B;have p:=ND B z;have h:KT d D:=by unfold KT;rw[E];omega
   have⟨F,l⟩:=g.tot D p m h;simp only;rw[l];cases F with
   |error x=>exact⟨_,rfl,g.err _ _ _ l⟩
   |ok y=>
    obtain⟨t,A⟩:=y;have⟨Q,I,R,T⟩:=g.mono _ _ _ p m h l;have j:=g.few _ _ _ p m h l;simp only;by_cases hk:A.k≠5
    .grind
    .rw[if_neg hk,A6V oa oa];cases b:FQ s A.en (A.op-1)with
     |error a=>simp
     |ok U=>have⟨K,L,G,_⟩:=WY C b;exact⟨_,rfl,oa,ND b I,oa,G,j.1,j.2⟩
theorem AJv{s:ByteArray}(p:s.size<=4000){m:Nat}(z:s.size<m)(l:m<=4500):∀d,GoodP s d (N2 s m d):=by
 intro d;induction d with
 |zero=>refine⟨λr _ _ h=>?_,λr t e _ _ _ h=>(oq),λr x _ h=>(oq),λr a c h=>(oq),λr t e _ _ _ h=>(oq)⟩;obtain⟨h1,E,G⟩:=h;omega
 |succ d D=>
  have y:=oD (kind:=3) (word:=⟨#[79,82]⟩) p (oD (kind:=2) (word:=⟨#[65,78,68]⟩) p D z l) z l;have key:∀r,r.en<=s.size->r.tx.size<=4000->KT (d+1) r->∃F,N2 s m (d+1) r=some F/\match F with
   | .error (_,c)=>c=3\/c=6
   | .ok (t,e)=>r.en<=e.en/\e.en<=s.size/\e.op=r.op/\e.tx.size<=4000/\Few t/\Short t:=by
   intro r j w C;unfold N2;by_cases hk:r.k=4
   .rw[if_pos hk];exact AJu p y j C
   .rw[if_neg hk];have:=AJt p j w;grind
  refine⟨λr a b c=>?_,λr t e a b c h=>?_,λr x hk h=>?_,λr a c h=>?_,λr t e a b c h=>?_⟩
  .grind
  .grind
  .unfold N2 at h;rw[if_neg oa]at h;unfold JC J1 at h;grind
  .unfold N2 at h;by_cases hk:r.k=4
   .rw[if_pos hk]at h;unfold OS at h;split at h
    .grind
    .split at h
     .grind
     .split at h
      .cases h
      .next A=>cases h;exact y.err _ _ _ A
      grind
   .rw[if_neg hk]at h;have h:=A2 h;unfold JC at h;split at h
    .grind[oC]
    .split at h
     .next B=>
      cases h;unfold LO at B;grind
     grind[KO,oB,oC]
  grind
theorem A6W{s:ByteArray}(h:s.size<=4000):∃F,N3 s (P_ s 4500 31)=some F/\match F with
 | .error (_,c)=>c=3\/c=6
 | .ok t=>Few t/\Short t:=by
 have d:GoodP s 31 (P_ s 4500 31):=oD h (oD h (AJv h oa (AD _) 31) oa (AD _)) oa (AD _);unfold N3;cases l:FQ s 0 0 with
 |error a=>simp
 |ok r=>
  have⟨w,p,e,_⟩:=WY h l;have j:=ND l (AS _);have m:KT 31 r:=by unfold KT;rw[p];omega
  have⟨F,b⟩:=d.tot r j e m;simp only;rw[b];cases F with
  |error x=>exact⟨_,rfl,d.err _ _ _ b⟩
  |ok y=>obtain⟨t,z⟩:=y;have:=d.few _ _ _ j e m b;simp only;split<;>grind
end Go.Ev.Pv
