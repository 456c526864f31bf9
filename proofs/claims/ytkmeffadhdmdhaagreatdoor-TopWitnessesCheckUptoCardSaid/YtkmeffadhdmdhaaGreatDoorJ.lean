/-
  Its next part.
-/
import Derived.Test.YtkmeffadhdmdhaaGreatDoorI
set_option linter.all false
set_option maxRecDepth 1000000
set_option maxHeartbeats 16000000
namespace Go.Ev.Pv
variable{s x word tx an ax:X3}{b k en g cap ab m sn sc:Nat}{w w' w'' w1 w2 w3 wx:X4}{v c d a' b' e:X2}{el:TypeId}{r r':RS}{l:KX UInt8}{S:Nat->Prop}{t:Tr}{vs:KX (KX X2)}{news:KX X2}{R:Nat->X4->Prop}{kind:Int}{FL:Except (Nat×Int) (KX Tr×RS)}{so:X1 Addr}{tmps:Array X2}{F:Except (Nat×Int) (Tr×RS)}
open Go.Proofs Go.RowKit
attribute [local irreducible] wpOpsS
theorem AKS(p q:Nat)(l m:Int)(w:X4){a b x y:X2}(V:CO w p a b c d e)(W:Two w q x y)(s:p≠q)(B:p<w.heap.size)(C:q<w.heap.size):
 CallsD Tryz.prog 296 #[.pointer (some ⟨p,0,none⟩),.pointer (some ⟨q,0,none⟩)] (.panicking (QW l m)) w λen Y w'=>
  en=.returned (.tuple #[])/\Y=.panicking [{v:=oM l m,recovered:=true}]/\CO w' p (.int .i64 0) (.string ⟨#[]⟩) (.bool false) (.string ⟨#[]⟩) (.slice none 0 0)/\Two w' q (.int .i64 l) (.int .i64 m)/\
   w'.heap.size=w.heap.size+1/\(∀j,j<w.heap.size->j≠p->j≠q->w'.heap[j]?=w.heap[j]?)/\w'.os=w.os/\w'.tape=w.tape/\w'.output=w.output:=by
 obtain⟨c0,G,H,I,J,f0,f1,O,R,T⟩:=V;obtain⟨L,M,e0,N⟩:=W;have D:q≠p:=s.symm;have E:=tj;unfold QW oM;refine callsD_of_wpS Tryz.func296 rfl λz K X=>?_
 simp only [Tryz.ntmps296,B9,BO,C8,Nat.reduceAdd,Nat.reduceSub,Array.replicate_succ,
  Array.replicate_zero,List.push_toArray,List.append_toArray,D3,List.cons_append]
 apply wpS_seq;apply wpS_region;rw[show List.range (Array.size _)=[0,1,2,3,4,5,6,7]from rfl];generalize U:Exit.thenS _ _=Q;refine AKQ rfl rfl rfl (AKI z K _ X) ?_;refine NO (v:=.tuple #[.agg #[.int .i64 l,.int .i64 m],.bool true]) (w':=w) rfl rfl (by rfl) ?_;refine NO (v:=.tuple #[.agg #[.int .i64 l,.int .i64 m],.bool true]) (w':=w) rfl rfl rfl ?_;refine NO (v:=.agg #[.int .i64 l,.int .i64 m]) (w':=w) rfl rfl rfl ?_;refine NO (v:=.bool true) (w':=w) rfl rfl rfl ?_;refine NO (v:=.pointer (some ⟨w.heap.size,0,none⟩)) (w':=w.alloc (.cells #[.int .i64 0,.int .i64 0] 392)) rfl rfl (by simp[go_sem]) ?_;refine A78 (w':=w.alloc (.cells #[.int .i64 l,.int .i64 m] 392)) rfl rfl (by simp[go_sem,Act.eval,Act.put]) ?_;refine NO (v:=.bool true) (w':=w.alloc (.cells #[.int .i64 l,.int .i64 m] 392)) rfl rfl rfl ?_;rw[wpOpsS,<-U,Exit.thenS];refine wpS_of_wp ?_;simp only[Act.put,List.setIfInBounds_toArray,List.set_cons_succ,List.set_cons_zero]
 go_wp2_with fail
 go_region
 all_goals go_wp2_with fail
 refine⟨rfl,.panicking [{v:=.iface 392 (.agg #[.int .i64 l,.int .i64 m]),recovered:=true}],?_,.tuple #[],by simp[results,Tryz.results296],rfl,rfl,?_,?_,?_,?_,?_,?_,?_⟩
 .rfl
 .refine⟨?_,?_,?_,?_,?_,?_,?_,?_,?_,?_⟩<;>simp[go_sem,c0,G,H,I,J,f0,f1,O,R,T,s,D,B,C]
 .refine⟨?_,?_,?_,?_⟩<;>simp[go_sem,L,M,e0,N,s,D,B,C]
 .simp
 .intro j Z h A;simp only[AKJ];rw[IP (by simp_all),heap_setCell A.symm,heap_setCell A.symm,heap_setCell h.symm,heap_setCell h.symm,heap_setCell h.symm,heap_setCell h.symm,heap_setCell h.symm]
 .simp only[AKK,AKM,AKO]
 .simp
 .simp only[AKL,AKN,AKP]
theorem AKT(c:Frame)(cs:KX Frame)(h:c.mode=.returning):recoverD (c::cs)=none:=by simp[recoverD,h]
theorem AKU(p q:Nat)(w:X4):
 CallsD Tryz.prog 296 #[.pointer (some ⟨p,0,none⟩),.pointer (some ⟨q,0,none⟩)] .returning w λen e w'=>
  en=.returned (.tuple #[])/\e=.returning/\w'=w.alloc (.cells #[.int .i64 0,.int .i64 0] 392):=by
 refine callsD_of_wpS Tryz.func296 rfl λa b d=>?_
 simp only [Tryz.ntmps296,B9,BO,C8,Nat.reduceAdd,Nat.reduceSub,Array.replicate_succ,
  Array.replicate_zero,List.push_toArray,List.append_toArray,D3,List.cons_append]
 apply wpS_seq;apply wpS_region;rw[show List.range (Array.size _)=[0,1,2,3,4,5,6,7]from rfl];generalize h:Exit.thenS _ _=Q;refine AKR rfl rfl rfl (AKT a b d) ?_;refine NO (v:=.tuple #[.agg #[.int .i64 0,.int .i64 0],.bool false]) (w':=w) rfl rfl (by rfl) ?_;refine NO (v:=.tuple #[.agg #[.int .i64 0,.int .i64 0],.bool false]) (w':=w) rfl rfl rfl ?_;refine NO (v:=.agg #[.int .i64 0,.int .i64 0]) (w':=w) rfl rfl rfl ?_;refine NO (v:=.bool false) (w':=w) rfl rfl rfl ?_;refine NO (v:=.pointer (some ⟨w.heap.size,0,none⟩)) (w':=w.alloc (.cells #[.int .i64 0,.int .i64 0] 392)) rfl rfl (by simp[go_sem]) ?_;refine A78 (w':=w.alloc (.cells #[.int .i64 0,.int .i64 0] 392)) rfl rfl (by simp[go_sem,Act.eval,Act.put]) ?_;refine NO (v:=.bool false) (w':=w.alloc (.cells #[.int .i64 0,.int .i64 0] 392)) rfl rfl rfl ?_;rw[wpOpsS,<-h,Exit.thenS];refine wpS_of_wp ?_;simp only[Act.put,List.setIfInBounds_toArray,List.set_cons_succ,List.set_cons_zero]
 go_wp2_with fail
 refine⟨rfl,.returning,?_,.tuple #[],by simp[results,Tryz.results296],rfl,rfl,rfl⟩;cases a;grind
def A0Y(w:X4)(F:Except (Nat×Int) Tr)(e:Ending)(w':X4):Prop:=W3 w.heap.size w w'/\match F with
 | .ok t=>∃(ak:Int) (an:X3) (al:X5) (ax:X3) (so:X1 Addr) (sn sc:Nat),e=.returned (.tuple #[.agg #[.int .i64 ak,.string an,.bool al,.string ax,.slice so sn sc],.agg #[.int .i64 0,.int .i64 0]])/\
  RH (w.heap.size<=·) w' t [.int .i64 ak,.string an,.bool al,.string ax,.slice so sn sc]
 | .error (a,c)=>e=.returned (.tuple #[.agg #[.int .i64 0,.string ⟨#[]⟩,.bool false,.string ⟨#[]⟩,.slice none 0 0],.agg #[.int .i64 a,.int .i64 c]])
abbrev z5(w:X4)(g:Nat):Prop:=CO w g (.int .i64 0) (.string ⟨#[]⟩) (.bool false) (.string ⟨#[]⟩) (.slice none 0 0)
theorem A0Z{h:Nat}{l:Int}{a b:X2}(k1:CO wx w.heap.size a b c d e)(H:Two wx (w.heap.size+1) (.int .i64 0) (.int .i64 0))(s:W3 w.heap.size w wx)(G:w.heap.size+2<=wx.heap.size)
 (m:∀w':X4,w.heap.size+1<w'.heap.size->z5 w' w.heap.size->Two w' (w.heap.size+1) (.int .i64 h) (.int .i64 l)->(results Tryz.f245 tmps).run Tryz.prog w'=.ok (.tuple #[.agg #[.int .i64 0,.string ⟨#[]⟩,.bool false,.string ⟨#[]⟩,.slice none 0 0],.agg #[.int .i64 h,.int .i64 l]]) w'):
 Leaves Tryz.prog Tryz.f245 tmps (A0Y w (.error (h,l))) [{target:=.fn (.func 296) #[.pointer (some ⟨w.heap.size,0,none⟩),.pointer (some ⟨w.heap.size+1,0,none⟩)],args:=#[]}] (.panicking (QW h l)) wx:=by
 refine leaves_cons (f:=296) (args:=#[.pointer (some ⟨w.heap.size,0,none⟩),.pointer (some ⟨w.heap.size+1,0,none⟩)]) oh (by simp[go_sem]) ?_;refine(AKS w.heap.size (w.heap.size+1) h l wx k1 H oa oa oa).mono ?_;rintro e J w'' ⟨rfl,rfl,y,z,I,A,B,C,D⟩;have p:settle (.panicking [{v:=oM h l,recovered:=true}])=.returning:=rfl;simp only[p];refine⟨_,m w'' oa y z,⟨oa,λj E x=>?_,B.trans s.os,C.trans s.tape,D.trans s.out⟩,rfl⟩;exact(A j oa oa oa).trans (s.heap j E x)
theorem AKV{b:Int}{al:X5}(k1:CO wx w.heap.size (.int .i64 b) (.string an) (.bool al) (.string ax) (.slice so sn sc))
 (z:Two wx (w.heap.size+1) (.int .i64 0) (.int .i64 0))(A:W3 w.heap.size w wx)(y:w.heap.size+2<=wx.heap.size)(B:RH (w.heap.size<=·) wx t [.int .i64 b,.string an,.bool al,.string ax,.slice so sn sc])
 (h:∀w':X4,w.heap.size+1<w'.heap.size->CO w' w.heap.size (.int .i64 b) (.string an) (.bool al) (.string ax) (.slice so sn sc)->Two w' (w.heap.size+1) (.int .i64 0) (.int .i64 0)->(results Tryz.f245 tmps).run Tryz.prog w'=.ok (.tuple #[.agg #[.int .i64 b,.string an,.bool al,.string ax,.slice so sn sc],.agg #[.int .i64 0,.int .i64 0]]) w'):
 Leaves Tryz.prog Tryz.f245 tmps (A0Y w (.ok t)) [{target:=.fn (.func 296) #[.pointer (some ⟨w.heap.size,0,none⟩),.pointer (some ⟨w.heap.size+1,0,none⟩)],args:=#[]}] .returning wx:=by
 refine leaves_cons (f:=296) (args:=#[.pointer (some ⟨w.heap.size,0,none⟩),.pointer (some ⟨w.heap.size+1,0,none⟩)]) oh (by simp[go_sem]) ?_;refine(AKU w.heap.size (w.heap.size+1) wx).mono ?_;rintro e C w'' ⟨rfl,rfl,rfl⟩;have d:settle .returning=.returning:=rfl;simp only[d];have a:∀j,j<wx.heap.size->(wx.alloc (.cells #[.int .i64 0,.int .i64 0] 392)).heap[j]?=wx.heap[j]?:=λj m=>IP m;obtain⟨s,x,e0,l⟩:=z;refine⟨_,h _ oc (k1.keep (a _ oa)) ⟨(GY (a _ oa) _).trans s,(GY (a _ oa) _).trans x,(P6 (a _ oa) _).trans e0,(P6 (a _ oa) _).trans l⟩,A.alloc _,b,an,al,ax,so,sn,sc,rfl,?_⟩;exact B.keep oh λj m p=>⟨a j p,m⟩
theorem CO.set5{a b c' d' e':X2}(h:CO w g a b c d e):
 CO (((((w.setCell ⟨g,0,none⟩ a').setCell ⟨g,1,none⟩ b').setCell ⟨g,2,none⟩ c').setCell ⟨g,3,none⟩ d').setCell ⟨g,4,none⟩ e') g a' b' c' d' e':=by
 obtain⟨h0,p,s,x,y,f0,f1,j,l,m⟩:=h;refine⟨?_,?_,?_,?_,?_,?_,?_,?_,?_,?_⟩<;>simp[go_sem,h0,p,s,x,y,f0,f1,j,l,m]
theorem Two.set2{a b:X2}(h:Two w g a b):Two ((w.setCell ⟨g,0,none⟩ a').setCell ⟨g,1,none⟩ b') g a' b':=by obtain⟨h0,d,f0,f1⟩:=h;refine⟨?_,?_,?_,?_⟩<;>simp[go_sem,h0,d,f0,f1]
theorem Two.keep{a b:X2}(h:Two w g a b)(k:w'.heap[g]?=w.heap[g]?):Two w' g a b:=by obtain⟨h0,d,f0,f1⟩:=h;exact⟨(GY k _).trans h0,(GY k _).trans d,(P6 k _).trans f0,(P6 k _).trans f1⟩
theorem AKW{a b:X2}(h:w.heap[g]?=some (.cells #[a,b] el (0,0))):Two w g a b:=by refine⟨?_,?_,?_,?_⟩<;>simp[World.cell?,World.frozen?,h]
def w0(w:X4)(s:X3):X4:=((w.alloc (.cells #[.int .i64 0,.string ⟨#[]⟩,.bool false,.string ⟨#[]⟩,.slice none 0 0] 318)).alloc (.cells #[.int .i64 0,.int .i64 0] 392)).alloc (.cells #[.string s,.int .i64 0,.int .i64 0,.string ⟨#[]⟩,.int .i64 0,.bool false,.int .i64 0] 458)
theorem A0_(w:X4)(s:X3):(w0 w s).heap.size=w.heap.size+1+1+1:=by grind[w0,EZ]
theorem oQ(w:X4)(s:X3):PA (w0 w s) (w.heap.size+1+1) s ⟨0,0,⟨#[]⟩,0,false,0⟩:=by unfold PA w0;have:=MP ((w.alloc (.cells #[.int .i64 0,.string ⟨#[]⟩,.bool false,.string ⟨#[]⟩,.slice none 0 0] 318)).alloc (.cells #[.int .i64 0,.int .i64 0] 392)) (.cells #[.string s,.int .i64 0,.int .i64 0,.string ⟨#[]⟩,.int .i64 0,.bool false,.int .i64 0] 458);rw[EZ,EZ]at this;exact this
theorem oR(h:W3 (w.heap.size+1+1) (w0 w s) wx):z5 wx w.heap.size/\Two wx (w.heap.size+1) (.int .i64 0) (.int .i64 0)/\W3 w.heap.size w wx/\w.heap.size+2<=wx.heap.size:=by
 have b:=h.size;rw[A0_]at b;have d:=MP w (.cells #[.int .i64 0,.string ⟨#[]⟩,.bool false,.string ⟨#[]⟩,.slice none 0 0] 318);have a:=MP (w.alloc (.cells #[.int .i64 0,.string ⟨#[]⟩,.bool false,.string ⟨#[]⟩,.slice none 0 0] 318)) (.cells #[.int .i64 0,.int .i64 0] 392);rw[EZ]at a;refine⟨SS (el:=318) ?_,AKW (el:=392) ?_,?_,oa⟩
 .rw[h.heap _ (by rw[A0_];omega) oa];grind[w0,IP,EZ]
 .rw[h.heap _ (by rw[A0_];omega) oa];grind[w0,IP,EZ]
 .exact((((W3.refl w.heap.size w).alloc _).alloc _).alloc _).under (c:=w.heap.size+1+1) h oa
theorem AKX(hN:NM)(s:X3)(e:PF)(w:X4)(he:P7 s (w.heap.size+1+1) 298 e)(F)(T:s.size<=4000)(y:NA s e=some F):
 Calls Tryz.prog 245 #[.string s] w (A0Y w F):=by
 have h5:=tj;have h8:∀(fn:Fn) (first cap:Array X2) (w:X4),(Instr.makeFunc fn first cap).run Tryz.prog w=.ok (.func fn first cap) w:=λ_ _ _ _=>rfl;have HN:=Lib.hid hN;have HE:=Lib.hid he;clear hN he;unfold NA at y;cases O:FV s 0 0 with
 |error a=>
  rw[O]at y;cases A2 y
  go_enter_defers Tryz.func245,Tryz.ntmps245
  go_wp2_with fail
  have z:=HN.out (w.heap.size+1+1) s ⟨0,0,⟨#[]⟩,0,false,0⟩ (w0 w s) T (AT _) (oQ w s);refine z.mono ?_;intro e w1 b;unfold J1 at b;rw[show FV s (RS.mk 0 0 ⟨#[]⟩ 0 false 0).en (RS.mk 0 0 ⟨#[]⟩ 0 false 0).op=.error a from O]at b;obtain⟨rfl,l⟩:=b;have⟨k1,C,D,R⟩:=oR l;refine A0Z k1 C D R λw' p L M=>?_;obtain⟨c0,H,I,J,K,f0,f1,V,X,Y⟩:=L;obtain⟨A,B,e0,Q⟩:=M;have h:w.heap.size<w'.heap.size:=oa;simp[results,Tryz.results245,go_sem,c0,H,I,J,K,A,B,p,h]
 |ok r=>
  have HT:=Lib.hid O;have h4:=NN O (AT _);rw[O]at y;simp only at y;clear O;cases Z:e r with
  |none=>grind
  |some F2=>
   rw[Z]at y;have hc:=λ(W:X4) (hW:PA W (w.heap.size+1+1) s r)=>HE.out.2.1 W r F2 hW h4 Z;have HC:=Lib.hid hc;clear hc Z;cases F2 with
   |error x=>
    obtain⟨ea,ec⟩:=x;cases A2 y
    go_enter_defers Tryz.func245,Tryz.ntmps245
    go_wp2_with fail
    have z:=HN.out (w.heap.size+1+1) s ⟨0,0,⟨#[]⟩,0,false,0⟩ (w0 w s) T (AT _) (oQ w s);refine z.mono ?_;intro e w1 b;unfold J1 at b;rw[show FV s (RS.mk 0 0 ⟨#[]⟩ 0 false 0).en (RS.mk 0 0 ⟨#[]⟩ 0 false 0).op=.ok r from HT.out]at b;obtain⟨rfl,d,l⟩:=b;have m:=HC.out w1 d;have HC1:=Lib.hid m;have N:=d.lt;have G2:=Lib.hid l;clear z d l m
    go_wp2_with fail
    refine HC1.out.mono ?_;intro e w2 b;obtain⟨rfl,l⟩:=b;have⟨k1,C,D,R⟩:=oR (G2.out.trans l);refine A0Z k1 C D R λw' p L M=>?_;obtain⟨c0,H,I,J,K,f0,f1,V,X,Y⟩:=L;obtain⟨A,B,e0,Q⟩:=M;have h:w.heap.size<w'.heap.size:=oa;simp[results,Tryz.results245,go_sem,c0,H,I,J,K,A,B,p,h]
   |ok x=>
    obtain⟨t,h7,k,y0,h6,x5,x4⟩:=x;simp only at y;by_cases hk:k=0
    .subst hk;rw[if_neg oh]at y;cases A2 y
     go_enter_defers Tryz.func245,Tryz.ntmps245
     go_wp2_with fail
     have z:=HN.out (w.heap.size+1+1) s ⟨0,0,⟨#[]⟩,0,false,0⟩ (w0 w s) T (AT _) (oQ w s);refine z.mono ?_;intro e w1 b;unfold J1 at b;rw[show FV s (RS.mk 0 0 ⟨#[]⟩ 0 false 0).en (RS.mk 0 0 ⟨#[]⟩ 0 false 0).op=.ok r from HT.out]at b;obtain⟨rfl,d,l⟩:=b;have m:=HC.out w1 d;have HC1:=Lib.hid m;have N:=d.lt;have G2:=Lib.hid l;clear z d l m
     go_wp2_with fail
     refine HC1.out.mono ?_;intro e w2 b;obtain⟨v,rfl,⟨E,an,al,ax,so,sn,sc,rfl,U⟩,d,l⟩:=b;obtain⟨q0,q1,q2,q3,q4,q5,q6,qf⟩:=d.cell;simp only at q1 q2 q3 q4 q5 q6;have⟨k1,C,D,R⟩:=oR (G2.out.trans l);have K1:=Lib.hid k1;have K2:=Lib.hid C;have h:w.heap.size<w2.heap.size:=oa;have G:w.heap.size+1<w2.heap.size:=oa;obtain⟨r0,r1,r2,r3,r4,p0,p1,p2,p3,p4⟩:=k1;obtain⟨A,B,e0,Q⟩:=C;have h3:=d.lt;have HK3:=Lib.hid D;have HTr:=Lib.hid U;clear d l U qf D
     go_wp2_with fail
     have FA:=M7 (w:=w2) (g:=w.heap.size) (a':=.int .i64 E) (b':=.string an) (c':=.bool al) (d':=.string ax) (e':=.slice so sn sc);have FB:=M7 (w:=_) (g:=w.heap.size) (a':=.int .i64 E) (b':=.string an) (c':=.bool al) (d':=.string ax) (e':=.slice so sn sc)|> FA.trans;have FC:=AJt (w:=(((((((((w2.setCell ⟨w.heap.size,0,none⟩ (.int .i64 E)).setCell ⟨w.heap.size,1,none⟩ (.string an)).setCell ⟨w.heap.size,2,none⟩ (.bool al)).setCell ⟨w.heap.size,3,none⟩ (.string ax)).setCell ⟨w.heap.size,4,none⟩ (.slice so sn sc)).setCell ⟨w.heap.size,0,none⟩ (.int .i64 E)).setCell ⟨w.heap.size,1,none⟩ (.string an)).setCell ⟨w.heap.size,2,none⟩ (.bool al)).setCell ⟨w.heap.size,3,none⟩ (.string ax)).setCell ⟨w.heap.size,4,none⟩ (.slice so sn sc)) (g:=w.heap.size+1) (a':=.int .i64 0) (b':=.int .i64 0);have K1':=(K1.out.set5 (a':=.int .i64 E) (b':=.string an) (c':=.bool al) (d':=.string ax) (e':=.slice so sn sc)).set5 (a':=.int .i64 E) (b':=.string an) (c':=.bool al) (d':=.string ax) (e':=.slice so sn sc);have x1:=FB.size;have x2:=FC.size;have h9:w.heap.size+1+1<w1.heap.size:=N;refine AKV (K1'.keep (FC.heap _ oa oa)) ((K2.out.keep (FB.heap _ oa oa)).set2) ((HK3.out.trans FB).under FC oa) oa ?_ λw' p L M=>?_
     .refine HTr.out.keep oa λj hj p=>?_;have hj:w1.heap.size<=j:=hj;exact⟨(FC.heap j oa oa).trans (FB.heap j oa oa),oa⟩
     .obtain⟨c0,H,I,J,K,f0,f1,V,X,Y⟩:=L;obtain⟨A,B,e0,Q⟩:=M;have h:w.heap.size<w'.heap.size:=oa;simp[results,Tryz.results245,go_sem,c0,H,I,J,K,A,B,p,h]
    .rw[if_pos hk]at y;cases A2 y;have k5:(k==0)=false:=by simp[hk]
     have x3:(k !=0)=true:=by simp[hk]
     clear hk
     go_enter_defers Tryz.func245,Tryz.ntmps245
     go_wp2_with fail
     have z:=HN.out (w.heap.size+1+1) s ⟨0,0,⟨#[]⟩,0,false,0⟩ (w0 w s) T (AT _) (oQ w s);refine z.mono ?_;intro e w1 b;unfold J1 at b;rw[show FV s (RS.mk 0 0 ⟨#[]⟩ 0 false 0).en (RS.mk 0 0 ⟨#[]⟩ 0 false 0).op=.ok r from HT.out]at b;obtain⟨rfl,d,l⟩:=b;have m:=HC.out w1 d;have HC1:=Lib.hid m;have N:=d.lt;have G2:=Lib.hid l;clear z d l m
     go_wp2_with fail
     refine HC1.out.mono ?_;intro e w2 b;obtain⟨v,rfl,⟨E,an,al,ax,so,sn,sc,rfl,U⟩,d,l⟩:=b;obtain⟨q0,q1,q2,q3,q4,q5,q6,qf⟩:=d.cell;simp only at q1 q2 q3 q4 q5 q6;have⟨k1,C,D,R⟩:=oR (G2.out.trans l);have K1:=Lib.hid k1;have K2:=Lib.hid C;have h:w.heap.size<w2.heap.size:=oa;have G:w.heap.size+1<w2.heap.size:=oa;obtain⟨r0,r1,r2,r3,r4,p0,p1,p2,p3,p4⟩:=k1;obtain⟨A,B,e0,Q⟩:=C;have h3:=d.lt;have HK3:=Lib.hid D;clear d l U qf D
     go_wp2_with (refine(X9 _ _ _).mono ?_;intro e w' hh;obtain⟨rfl,hw⟩:=hh;replace hw:=hw.symm;subst hw)
     have FA:=M7 (w:=w2) (g:=w.heap.size) (a':=.int .i64 E) (b':=.string an) (c':=.bool al) (d':=.string ax) (e':=.slice so sn sc);have x0:=FA.size;refine A0Z (K1.out.set5) (K2.out.keep (FA.heap _ G oa)) (HK3.out.trans FA) oa λw' p L M=>?_;obtain⟨c0,H,I,J,K,f0,f1,V,X,Y⟩:=L;obtain⟨A,B,e0,Q⟩:=M;have h:w.heap.size<w'.heap.size:=oa;simp[results,Tryz.results245,go_sem,c0,H,I,J,K,A,B,p,h]
theorem A79:∀(b:KX Tr) (d:Int) (a:Int×Int),1<=a.1->a.1<=201->(∀t∈b,1<=(IV t (d+1)).1)->1<=(LE b d a).1/\(LE b d a).1<=201:=by intro b;induction b<;>grind[LE]
theorem AKY:∀(b:KX Tr) (t:Tr) (d:Int) (a:Int×Int),LE (b++[t]) d a=(min ((LE b d a).1+(IV t (d+1)).1) 201,max (LE b d a).2 (IV t (d+1)).2):=by intro b;induction b<;>simp_all[D3,LE,List.cons_append]
theorem AKZ{v:KX X2}(h:RH S w t v):∀d,1<=(IV t d).1/\(IV t d).1<=201:=by
 induction h with
 |leaf k n l x=>grind[IV,LE]
 |node k n l x a g cap vs p e s y z hk m=>
  intro d;rw[IV];split
  .simp
  .refine A79 a d _ oh oh λt j=>?_;have⟨i,hi⟩:=BR j;have b:i<a.length:=(A3.1 hi).1;exact(m i t _ hi (A1 oa) (d+1)).1
inductive Few:Tr->Prop
 |mk (k:Int) (n:ByteArray) (l:Bool) (x:ByteArray) (kids:List Tr) (h:kids.length<=5000) (hk:∀t∈kids,Few t):Few (.node k n l x kids)
def oS(w':X4)(t:Tr)(d:Int)(e:Ending)(w'':X4):Prop:=e=.returned (.tuple #[.int .i64 (IV t d).1,.int .i64 (IV t d).2])/\W3 w'.heap.size w' w''
theorem A7A(k:Int)(n:X3)(l:X5)(x:X3)(a:KX Tr)(so:X1 Addr)(sc:Nat)(w':X4)(d:Int)(h0:0<=d)(h1:d<=31)(Y:a.length<=5000)(h3:a.length<=sc)
 (z:∀t∈a,1<=(IV t (d+1)).1/\(IV t (d+1)).1<=201)
 (b:d<=30->∀ (i:Nat) (t:Tr),a[i]? = some t->∃ (g:Nat) (G:Int) (an:X3) (al:X5) (ax:X3) (y:X1 Addr) (p s:Nat),so=some ⟨g,0,none⟩/\g<w'.heap.size/\(w'.cell? ⟨g,i*5+0,none⟩=some (.int .i64 G)/\w'.cell? ⟨g,i*5+1,none⟩=some (.string an)/\w'.cell? ⟨g,i*5+2,none⟩=some (.bool al) /\
  w'.cell? ⟨g,i*5+3,none⟩=some (.string ax)/\w'.cell? ⟨g,i*5+4,none⟩=some (.slice y p s))/\∀wr,W3 w'.heap.size w' wr->Calls Tryz.prog 300 #[.agg #[.int .i64 G,.string an,.bool al,.string ax,.slice y p s],.int .i64 (d+1)] wr (oS wr t (d+1))):
 Calls Tryz.prog 300 #[.agg #[.int .i64 k,.string n,.bool l,.string x,.slice so a.length sc],.int .i64 d] w' (oS w' (.node k n l x a) d):=by
 have Q:=tj;have HK:=Lib.hid b;have HB:=Lib.hid z;clear b z;by_cases hd:30<d
 .have HM:=Lib.hid (show IV (.node k n l x a) d=(1,d) by rw[IV,if_pos hd]);have h2:¬d<=30:=oa;go_enter Tryz.func300,Tryz.ntmps300
  go_wp2_with fail
  refine bodyPost_ret (v:=.tuple #[.int .i64 1,.int .i64 d]) (by simp[results,Tryz.results300,go_sem]) rfl ⟨by rw[HM.out],(W3.refl _ w').alloc _⟩
 .have HM:=Lib.hid (show IV (.node k n l x a) d=LE a d (1,d) by rw[IV,if_neg hd]);have J:d<=30:=oa;have HK2:=Lib.hid (HK.out J);go_enter Tryz.func300,Tryz.ntmps300
  go_wp2_with fail
  go_loopw [18,4,5] (λi c m wr=>∃q:Nat,q<=a.length/\i=.int .i64 q/\c=.int .i64 (LE (a.take q) d (1,d)).1/\m=.int .i64 (LE (a.take q) d (1,d)).2/\W3 w'.heap.size w' wr) (λi _ _ _=>a.length-(RowKit.intOf i).toNat)
  case atStart=>exact⟨0,AT _,rfl,rfl,rfl,(W3.refl _ w').alloc _⟩
  case round=>
   obtain⟨q,hq,rfl,A,C,B⟩:=hrel;obtain⟨c,H⟩:∃c,(LE (a.take q) d (1,d)).1=c:=⟨_,rfl⟩;obtain⟨m,L⟩:∃m,(LE (a.take q) d (1,d)).2=m:=⟨_,rfl⟩;rw[H]at A;rw[L]at C;subst A C;have HFr:=Lib.hid B;have HC:=Lib.hid H;have HMm:=Lib.hid L;clear B H L;by_cases K:q<a.length
   .obtain⟨t,E⟩:∃t,a[q]?=some t:=⟨_,A1 K⟩;obtain⟨g,G,an,al,ax,y,p,s,rfl,hg,⟨c0,R,T,U,V⟩,h⟩:=HK2.out q t E;have e:=HFr.out.heap g hg oa;have Z:=(GY e _).trans c0;have d1:=(GY e _).trans R;have d2:=(GY e _).trans T;have d3:=(GY e _).trans U;have d4:=(GY e _).trans V;rw[CG]at Z;have hb:=HB.out t (AE E);have I:=A79 (a.take q) d (1,d) oh oh λt' h'=>(HB.out t' (List.mem_of_mem_take h')).1;rw[HC.out]at I;obtain⟨W,j⟩:∃W,(IV t (d+1)).1=W:=⟨_,rfl⟩;obtain⟨mt,D⟩:∃mt,(IV t (d+1)).2=mt:=⟨_,rfl⟩;rw[j]at hb;have HT:=Lib.hid E;have HCall:=Lib.hid h;have HCT:=Lib.hid j;have HMT:=Lib.hid D;clear e c0 R T U V E h j D
    go_wp2_with fail
    refine(HCall.out _ (HFr.out.alloc _)).mono ?_;intro e w2 hp;obtain⟨rfl,X⟩:=hp;rw[HCT.out,HMT.out];have G2:=Lib.hid X;clear X
    go_wp2_with fail
    have O:a.take (q+1)=a.take q++[t]:=by rw[List.take_add_one,HT.out];rfl
    have N:=AKY (a.take q) t d (1,d);rw[<-O,HC.out,HMm.out,HCT.out,HMT.out]at N
    go_roundw
    case rel=>exact⟨q+1,oa,by go_num,by rw[N],by rw[N],(HFr.out.alloc _).under G2.out (by rw[EZ];have:=HFr.out.size;omega)⟩
    case measure=>simp[RowKit.intOf];omega
   .have M:q=a.length:=oa;subst M
    go_wp2_with fail
    refine bodyPost_ret (v:=.tuple #[.int .i64 c,.int .i64 m]) (by simp[results,Tryz.results300,go_sem]) rfl ⟨?_,HFr.out⟩;rw[HM.out,<-HC.out,<-HMm.out,AR]
theorem AK_{v:KX X2}(h:RH S w t v):Few t->∀(w':X4) (d:Int),w.heap.size<=w'.heap.size->(∀j,S j->j<w.heap.size->w'.heap[j]?=w.heap[j]?)->0<=d->d<=31->
 Calls Tryz.prog 300 #[.agg v.toArray,.int .i64 d] w' (oS w' t d):=by
 induction h with
 |leaf k n l x=>intro O w' d Q hk h0 p;exact A7A k n l x [] none 0 w' d h0 p (AT _) (AT _) (λ_ h=>om) λ_ i t h=>by simp at h
 |node k n l x m g cap vs R K T Z W B X=>
  intro O w' d Q hk h0 p;cases O with
  |mk _ _ _ _ _ C I=>
  refine A7A k n l x m (some ⟨g,0,none⟩) cap w' d h0 p C T (λt V=>?_) λhd i t hi=>?_
  .obtain⟨i,hi⟩:=BR V;have J:i<m.length:=(A3.1 hi).1;exact AKZ (B i t _ hi (A1 oa)) (d+1)
  .have J:i<m.length:=(A3.1 hi).1;have E:vs[i]?=some (vs[i]'(oa)):=A1 oa;have H:=B i t _ hi E;have a:=W i _ E;have b:=X i t _ hi E (I t (AE hi));have Y:=H.five;obtain⟨N,M⟩:∃N,vs[i]'(oa)=N:=⟨_,rfl⟩;rw[M]at H a b E;have L:∃(G:Int) (an:X3) (al:X5) (ax:X3) (z:X1 Addr) (y s:Nat),N=[.int .i64 G,.string an,.bool al,.string ax,.slice z y s]:=by cases H<;>exact⟨_,_,_,_,_,_,_,rfl⟩
   obtain⟨G,an,al,ax,z,y,s,rfl⟩:=L;have e:=hk g R K;refine⟨g,G,an,al,ax,z,y,s,rfl,oa,⟨(GY e _).trans (a 0 _ rfl),(GY e _).trans (a 1 _ rfl),(GY e _).trans (a 2 _ rfl),(GY e _).trans (a 3 _ rfl),(GY e _).trans (a 4 _ rfl)⟩,λwr A=>?_⟩;exact b wr (d+1) (AM Q A.size) (λj U D=>(A.heap j oa oa).trans (hk j U D)) oa oa
def oT(w':X4)(t:Tr)(e:Ending)(w'':X4):Prop:=e=.returned (.int .i64 (NB t))/\W3 w'.heap.size w' w''
theorem A0a:(x.toList==([]:KX UInt8))=decide (x=⟨#[]⟩):=by have:=A0V (x:=x) (y:=⟨#[]⟩);simpa using this
theorem A7B(k:Int)(n:X3)(l:X5)(x:X3)(a:KX Tr)(so:X1 Addr)(sc:Nat)(w':X4)(h5:a.length<=5000)(h7:a.length<=sc)(hn:n.size<=4000)(hx:x.size<=4000)
 (A:∀ (i:Nat) (t:Tr),a[i]? = some t->∃ (g:Nat) (V:Int) (an:X3) (al:X5) (ax:X3) (H:X1 Addr) (G E:Nat),so=some ⟨g,0,none⟩/\g<w'.heap.size/\(w'.cell? ⟨g,i*5+0,none⟩=some (.int .i64 V)/\w'.cell? ⟨g,i*5+1,none⟩=some (.string an)/\w'.cell? ⟨g,i*5+2,none⟩=some (.bool al) /\
  w'.cell? ⟨g,i*5+3,none⟩=some (.string ax)/\w'.cell? ⟨g,i*5+4,none⟩=some (.slice H G E))/\∀wr,W3 w'.heap.size w' wr->Calls Tryz.prog 301 #[.agg #[.int .i64 V,.string an,.bool al,.string ax,.slice H G E]] wr (oT wr t)):
 Calls Tryz.prog 301 #[.agg #[.int .i64 k,.string n,.bool l,.string x,.slice so a.length sc]] w' (oT w' (.node k n l x a)):=by
 have h2:=tj;have HK:=Lib.hid A;clear A;obtain⟨v,hv⟩:∃v,NB (.node k n l x a)=v:=⟨_,rfl⟩;have h:=hv;rw[NB]at h;have HV:=Lib.hid hv;clear hv;by_cases p:k<1\/3<k
 .rw[if_pos p]at h;subst h;by_cases h1:k<1
  .go_enter Tryz.func301,Tryz.ntmps301
   go_wp2_with fail
   refine bodyPost_ret (v:=.int .i64 7) (by simp[results,Tryz.results301,go_sem]) rfl ⟨by rw[HV.out],(W3.refl _ w').alloc _⟩
  .have h3:3<k:=oa;have h6:1<=k:=oa;go_enter Tryz.func301,Tryz.ntmps301
   go_wp2_with fail
   refine bodyPost_ret (v:=.int .i64 7) (by simp[results,Tryz.results301,go_sem]) rfl ⟨by rw[HV.out],(W3.refl _ w').alloc _⟩
 .rw[if_neg p]at h;have h1:1<=k:=oa;have h3:k<=3:=oa;clear p;by_cases hk:k=1
  .subst hk;rw[if_pos rfl]at h;by_cases X:0<a.length
   .rw[if_pos X]at h;subst h;go_enter Tryz.func301,Tryz.ntmps301
    go_wp2_with fail
    refine bodyPost_ret (v:=.int .i64 2) (by simp[results,Tryz.results301,go_sem]) rfl ⟨by rw[HV.out],(W3.refl _ w').alloc _⟩
   .rw[if_neg X]at h;have Y:a.length=0:=oa;rw[Y];clear X;have Q:=λ(W:X4)=>A0S n W hn;have R:=λ(W:X4)=>A0S x W hx;have HW1:=Lib.hid Q;have HW2:=Lib.hid R;clear Q R;cases B:HG n with
    |false=>
     rw[if_pos (.inl B)]at h;subst h;rw[B]at HW1;go_enter Tryz.func301,Tryz.ntmps301;clear B
     go_wp2_with fail
     refine(HW1.out _).mono ?_;intro e w1 m;obtain⟨rfl,d⟩:=m;replace d:=d.symm;subst d
     go_wp2_with fail
     refine bodyPost_ret (v:=.int .i64 8) (by simp[results,Tryz.results301,go_sem]) rfl ⟨by rw[HV.out],(W3.refl _ w').alloc _⟩
    |true=>
     rw[B]at HW1;by_cases j:x=⟨#[]⟩
     .rw[if_neg oc]at h;subst h j;clear B;go_enter Tryz.func301,Tryz.ntmps301
      go_wp2_with fail
      refine(HW1.out _).mono ?_;intro e w1 m;obtain⟨rfl,d⟩:=m;replace d:=d.symm;subst d
      go_wp2_with fail
      refine bodyPost_ret (v:=.int .i64 0) (by simp[results,Tryz.results301,go_sem]) rfl ⟨by rw[HV.out],(W3.refl _ w').alloc _⟩
     .have y:(x.toList==([]:KX UInt8))=false:=by rw[A0a];simp[j]
      have M:(x.toList !=([]:KX UInt8))=true:=by rw[bne,y];rfl
      cases K:HG x with
      |false=>
       rw[if_pos (.inr ⟨j,K⟩)]at h;rw[K]at HW2;subst h;clear B K j;go_enter Tryz.func301,Tryz.ntmps301
       go_wp2_with fail
       refine(HW1.out _).mono ?_;intro e w1 m;obtain⟨rfl,d⟩:=m;replace d:=d.symm;subst d
       go_wp2_with fail
       refine(HW2.out _).mono ?_;intro e w1 m;obtain⟨rfl,d⟩:=m;replace d:=d.symm;subst d
       go_wp2_with fail
       refine bodyPost_ret (v:=.int .i64 8) (by simp[results,Tryz.results301,go_sem]) rfl ⟨by rw[HV.out],(W3.refl _ w').alloc _⟩
      |true=>
       rw[if_neg oc]at h;rw[K]at HW2;subst h;clear B K j;go_enter Tryz.func301,Tryz.ntmps301
       go_wp2_with fail
       refine(HW1.out _).mono ?_;intro e w1 m;obtain⟨rfl,d⟩:=m;replace d:=d.symm;subst d
       go_wp2_with fail
       refine(HW2.out _).mono ?_;intro e w1 m;obtain⟨rfl,d⟩:=m;replace d:=d.symm;subst d
       go_wp2_with fail
       refine bodyPost_ret (v:=.int .i64 0) (by simp[results,Tryz.results301,go_sem]) rfl ⟨by rw[HV.out],(W3.refl _ w').alloc _⟩
  .rw[if_neg hk]at h;have k1:(k==1)=false:=by simp[hk]
   clear hk;by_cases z:n=⟨#[]⟩
   .subst z;cases l with
    |true=>
     rw[if_pos (.inr (.inl rfl))]at h;subst h;go_enter Tryz.func301,Tryz.ntmps301
     go_wp2_with fail
     refine bodyPost_ret (v:=.int .i64 2) (by simp[results,Tryz.results301,go_sem]) rfl ⟨by rw[HV.out],(W3.refl _ w').alloc _⟩
    |false=>
     by_cases j:x=⟨#[]⟩
     .subst j;by_cases O:a.length<2
      .rw[if_pos (.inr (.inr (.inr O)))]at h;subst h;go_enter Tryz.func301,Tryz.ntmps301
       go_wp2_with fail
       refine bodyPost_ret (v:=.int .i64 2) (by simp[results,Tryz.results301,go_sem]) rfl ⟨by rw[HV.out],(W3.refl _ w').alloc _⟩
      .rw[if_neg ot]at h;have h4:2<=a.length:=oa;have HL:=Lib.hid h;clear h O;go_enter Tryz.func301,Tryz.ntmps301
       go_wp2_with fail
       go_loopw [59] (λi wr=>∃q:Nat,q<=a.length/\i=.int .i64 q/\QF (a.drop q)=v/\W3 w'.heap.size w' wr) (λi _=>a.length-(RowKit.intOf i).toNat)
       case atStart=>exact⟨0,AT _,rfl,HL.out,(W3.refl _ w').alloc _⟩
       case round=>
        obtain⟨q,hq,rfl,b,N⟩:=hrel;have HFr:=Lib.hid N;have HCl:=Lib.hid b;clear N b;by_cases D:q<a.length
        .obtain⟨t,U⟩:∃t,a[q]?=some t:=⟨_,A1 D⟩;obtain⟨g,V,an,al,ax,H,G,E,rfl,hg,⟨c0,c1,c2,c3,c4⟩,s⟩:=HK.out q t U;have e:=HFr.out.heap g hg oa;have d0:=(GY e _).trans c0;have d1:=(GY e _).trans c1;have d2:=(GY e _).trans c2;have d3:=(GY e _).trans c3;have d4:=(GY e _).trans c4;rw[CG]at d0;have L:a.drop q=t::a.drop (q+1):=by rw[BL D];rw[A1 D]at U;rw[A2 U]
         have b:=HCl.out;rw[L,QF]at b;obtain⟨I,C⟩:∃I,NB t=I:=⟨_,rfl⟩;rw[C]at b;have HCT:=Lib.hid C;have HCall:=Lib.hid s;clear e c0 c1 c2 c3 c4 U s C L;by_cases T:I=0
         .subst T;rw[if_neg oh]at b;have HCn:=Lib.hid b;clear b
          go_wp2_with fail
          refine(HCall.out _ (HFr.out.alloc _)).mono ?_;intro e w2 m;obtain⟨rfl,J⟩:=m;rw[HCT.out];have G2:=Lib.hid J;clear J
          go_wp2_with fail
          go_roundw
          case rel=>exact⟨q+1,oa,by go_num,HCn.out,(HFr.out.alloc _).under G2.out (by rw[EZ];have:=HFr.out.size;omega)⟩
          case measure=>simp[RowKit.intOf];omega
         .rw[if_pos T]at b;subst b;have z1:(I==0)=false:=by simp[T]
          have z2:(I !=0)=true:=by simp[T]
          clear T
          go_wp2_with fail
          refine(HCall.out _ (HFr.out.alloc _)).mono ?_;intro e w2 m;obtain⟨rfl,J⟩:=m;rw[HCT.out];have G2:=Lib.hid J;clear J
          go_wp2_with fail
          refine bodyPost_ret (v:=.int .i64 I) (by simp[results,Tryz.results301,go_sem]) rfl ⟨by rw[HV.out],(HFr.out.alloc _).under G2.out (by rw[EZ];have:=HFr.out.size;omega)⟩
        .have Z:q=a.length:=oa;subst Z;have b:=HCl.out;rw[List.drop_length,QF]at b;subst b
         go_wp2_with fail
         refine bodyPost_ret (v:=.int .i64 0) (by simp[results,Tryz.results301,go_sem]) rfl ⟨by rw[HV.out],HFr.out⟩
     .have y:(x.toList==([]:KX UInt8))=false:=by rw[A0a];simp[j]
      have M:(x.toList !=([]:KX UInt8))=true:=by rw[bne,y];rfl
      rw[if_pos (.inr (.inr (.inl j)))]at h;subst h;clear j;go_enter Tryz.func301,Tryz.ntmps301
      go_wp2_with fail
      refine bodyPost_ret (v:=.int .i64 2) (by simp[results,Tryz.results301,go_sem]) rfl ⟨by rw[HV.out],(W3.refl _ w').alloc _⟩
   .have y:(n.toList==([]:KX UInt8))=false:=by rw[A0a];simp[z]
    have M:(n.toList !=([]:KX UInt8))=true:=by rw[bne,y];rfl
    rw[if_pos (.inl z)]at h;subst h;clear z;go_enter Tryz.func301,Tryz.ntmps301
    go_wp2_with fail
    refine bodyPost_ret (v:=.int .i64 2) (by simp[results,Tryz.results301,go_sem]) rfl ⟨by rw[HV.out],(W3.refl _ w').alloc _⟩
inductive hJ:Tr->Prop
 |mk (k:Int) (n:ByteArray) (l:Bool) (x:ByteArray) (kids:List Tr) (hn:n.size<=4000) (hx:x.size<=4000) (hk:∀t∈kids,hJ t):hJ (.node k n l x kids)
theorem AKa{v:KX X2}(h:RH S w t v):Few t->hJ t->∀(w':X4),w.heap.size<=w'.heap.size->(∀j,S j->j<w.heap.size->w'.heap[j]?=w.heap[j]?)->
 Calls Tryz.prog 301 #[.agg v.toArray] w' (oT w' t):=by
 induction h with
 |leaf k n l x=>
  intro Q K w' R hk;cases K with
  |mk _ _ _ _ _ J m C=>
  exact A7B k n l x [] none 0 w' (AT _) (AT _) J m λi t h=>by simp at h
 |node k n l x d g cap vs T I U Z X H Y=>
  intro Q K w' R hk;cases Q with
  |mk _ _ _ _ _ A G=>
  cases K with
  |mk _ _ _ _ _ J m C=>
  refine A7B k n l x d (some ⟨g,0,none⟩) cap w' A U J m λi t hi=>?_;have V:i<d.length:=(A3.1 hi).1;have D:vs[i]?=some (vs[i]'(oa)):=A1 oa;have O:=H i t _ hi D;have a:=X i _ D;have b:=Y i t _ hi D (G t (AE hi)) (C t (AE hi));obtain⟨N,M⟩:∃N,vs[i]'(oa)=N:=⟨_,rfl⟩;rw[M]at O a b D;have L:∃(E:Int) (an:X3) (al:X5) (ax:X3) (y:X1 Addr) (p s:Nat),N=[.int .i64 E,.string an,.bool al,.string ax,.slice y p s]:=by cases O<;>exact⟨_,_,_,_,_,_,_,rfl⟩
  obtain⟨E,an,al,ax,y,p,s,rfl⟩:=L;have e:=hk g T I;refine⟨g,E,an,al,ax,y,p,s,rfl,oa,⟨(GY e _).trans (a 0 _ rfl),(GY e _).trans (a 1 _ rfl),(GY e _).trans (a 2 _ rfl),(GY e _).trans (a 3 _ rfl),(GY e _).trans (a 4 _ rfl)⟩,λwr z=>?_⟩;exact b wr (AM R z.size) (λj W B=>(z.heap j oa oa).trans (hk j W B))
theorem AKb{y:Int}{al:X5}(h:RH S w t [.int .i64 y,.string an,.bool al,.string ax,.slice so sn sc])(K:Few t)(Q:hJ t)(w':X4)(M:w.heap.size<=w'.heap.size)
 (hk:∀j,S j->j<w.heap.size->w'.heap[j]?=w.heap[j]?):
 Calls Tryz.prog 246 #[.agg #[.int .i64 y,.string an,.bool al,.string ax,.slice so sn sc]] w' λe w''=>e=.returned (.int .i64 (QG t))/\W3 w'.heap.size w' w'':=by
 have G:=tj;have L:=λ(W:X4) (a:W3 w'.heap.size w' W) (l:∀j,S j->j<w.heap.size->W.heap[j]?=w.heap[j]?)=>AK_ h K W 1 (AM M a.size) l oa oa;have x:=λ(W:X4) (a:W3 w'.heap.size w' W) (l:∀j,S j->j<w.heap.size->W.heap[j]?=w.heap[j]?)=>AKa h K Q W (AM M a.size) l;have l:=λ(W:X4) (a:W3 w'.heap.size w' W) (j:Nat) (B:S j) (C:j<w.heap.size)=>(a.heap j oa oa).trans (hk j B C);have HM:=Lib.hid (λ(W:X4) (a:W3 w'.heap.size w' W)=>L W a (l W a));have HC:=Lib.hid (λ(W:X4) (a:W3 w'.heap.size w' W)=>x W a (l W a));clear L x l hk h;unfold oS at HM;unfold oT at HC;obtain⟨D,m⟩:∃c,(IV t 1).1=c:=⟨_,rfl⟩;obtain⟨E,p⟩:∃c,(IV t 1).2=c:=⟨_,rfl⟩;obtain⟨H,d⟩:∃c,NB t=c:=⟨_,rfl⟩;have J:QG t=if 30<E\/200<D then 3 else H:=by unfold QG;rw[m,p,d]
 rw[m,p]at HM;rw[d]at HC;rw[J];clear m p d J;by_cases B:30<E
 .rw[if_pos (.inl B)];go_enter Tryz.func246,Tryz.ntmps246
  go_wp2_with fail
  refine(HM.out _ ((W3.refl _ w').alloc _)).mono ?_;intro e w2 s;obtain⟨rfl,b⟩:=s;have G2:=Lib.hid b;clear b
  go_wp2_with fail
  refine bodyPost_ret (v:=.int .i64 3) (by simp[results,Tryz.results246,go_sem]) rfl ⟨rfl,((W3.refl _ w').alloc _).under G2.out (by rw[EZ];omega)⟩
 .have N:E<=30:=oa;by_cases C:200<D
  .rw[if_pos (.inr C)];go_enter Tryz.func246,Tryz.ntmps246
   go_wp2_with fail
   refine(HM.out _ ((W3.refl _ w').alloc _)).mono ?_;intro e w2 s;obtain⟨rfl,b⟩:=s;have G2:=Lib.hid b;clear b
   go_wp2_with fail
   refine bodyPost_ret (v:=.int .i64 3) (by simp[results,Tryz.results246,go_sem]) rfl ⟨rfl,((W3.refl _ w').alloc _).under G2.out (by rw[EZ];omega)⟩
  .rw[if_neg oa];have O:D<=200:=oa;go_enter Tryz.func246,Tryz.ntmps246
   go_wp2_with fail
   refine(HM.out _ ((W3.refl _ w').alloc _)).mono ?_;intro e w2 s;obtain⟨rfl,b⟩:=s;have A:=((W3.refl w'.heap.size w').alloc (.cells #[.int .i64 y,.string an,.bool al,.string ax,.slice so sn sc] 318)).under b (by rw[EZ];omega);have z:=b.heap w'.heap.size (by rw[EZ];omega) (by rw[EZ];omega);rw[MP]at z;have⟨c0,T,U,V,X,_⟩:=SS z;have x:=HC.out w2 A;have HC2:=Lib.hid x;have FR:=Lib.hid A;have R:w'.heap.size<w2.heap.size:=by have:=b.size;rw[EZ]at this;omega
   clear b z x A
   go_wp2_with fail
   refine HC2.out.mono ?_;intro e w3 s;obtain⟨rfl,I⟩:=s;have G3:=Lib.hid I;clear I
   go_wp2_with fail
   refine bodyPost_ret (v:=.int .i64 H) (by simp[results,Tryz.results246,go_sem]) rfl ⟨rfl,FR.out.under G3.out oa⟩
def A7C(w:X4)(F:Except (Nat×Int) Tr)(e:Ending)(w':X4):Prop:=W3 w.heap.size w w'/\match F with
 | .ok t=>∃(ak:Int) (an:X3) (al:X5) (ax:X3) (so:X1 Addr) (sn sc:Nat),e=.returned (.tuple #[.agg #[.int .i64 ak,.string an,.bool al,.string ax,.slice so sn sc],.int .i64 0,.int .i64 0])/\
  RH (w.heap.size<=·) w' t [.int .i64 ak,.string an,.bool al,.string ax,.slice so sn sc]
 | .error (a,c)=>e=.returned (.tuple #[.agg #[.int .i64 0,.string ⟨#[]⟩,.bool false,.string ⟨#[]⟩,.slice none 0 0],.int .i64 a,.int .i64 c])
theorem A7D(hN:NM)(s:X3)(e:PF)(X:s.size<=4000->∀b,P7 s b 298 e)(l:∀a c,NA s e=some (.error (a,c))->c≠0)(h3:s.size<4611686018427387904)(G:∀t,NA s e=some (.ok t)->Few t/\hJ t)(w:X4)(F)(d:T_ s e=some F):
 Calls Tryz.prog 167 #[.string s] w (A7C w F):=by
 have h2:=tj;unfold T_ at d;by_cases R:4000<s.size
 .rw[if_pos R]at d;cases A2 d;have h6:¬(s.size:Int)<=4000:=oa;have h4:(4000:Int)<(s.size:Int):=oa;go_enter Tryz.func167,Tryz.ntmps167
  go_wp2_with fail
  have m:W3 w.heap.size w _:=(W3.refl w.heap.size w).alloc (.cells #[.int .i64 0,.string ⟨#[]⟩,.bool false,.string ⟨#[]⟩,.slice none 0 0] 318);refine bodyPost_ret (v:=.tuple #[.agg #[.int .i64 0,.string ⟨#[]⟩,.bool false,.string ⟨#[]⟩,.slice none 0 0],.int .i64 (0:Nat),.int .i64 3]) (by simp[results,Tryz.results167,go_sem]) rfl ⟨m,rfl⟩
 .rw[if_neg R]at d;have N:s.size<=4000:=oa;cases D:NA s e with
  |none=>rw[D]at d;cases d
  |some FR=>
   rw[D]at d;have M:=λ(W:X4)=>AKX hN s e W (X N _) FR N D;have HR:=Lib.hid M;clear M;cases FR with
   |error x=>
    obtain⟨a,c⟩:=x;have y:=l a c D;cases A2 d;have c1:(c==0)=false:=by simp[y]
    have c2:(c !=0)=true:=by simp[y]
    clear y l D G X d R;go_enter Tryz.func167,Tryz.ntmps167
    go_wp2_with fail
    refine(HR.out _).mono ?_;intro e w2 L;obtain⟨m,rfl⟩:=L;have C:=m.heap w.heap.size (by rw[EZ];omega) (by rw[EZ];omega);rw[MP]at C;have⟨k0,k1,T,U,V,f0,f1,f2,f3,f4⟩:=SS C;have H:w.heap.size<w2.heap.size:=by have:=m.size;rw[EZ]at this;omega
    have FR:=Lib.hid m;clear m C
    go_wp2_with fail
    go_region
    all_goals
     go_wp2_with fail
     refine bodyPost_ret (v:=.tuple #[.agg #[.int .i64 0,.string ⟨#[]⟩,.bool false,.string ⟨#[]⟩,.slice none 0 0],.int .i64 a,.int .i64 c]) (by simp[results,Tryz.results167,go_sem,k0,k1,T,U,V,H]) rfl ⟨?_,rfl⟩;have p:=((W3.refl w.heap.size w).alloc (.cells #[.int .i64 0,.string ⟨#[]⟩,.bool false,.string ⟨#[]⟩,.slice none 0 0] 318)).under FR.out (by rw[EZ];omega);exact(((p.trans M7).alloc _).alloc _).drew
   |ok t=>
    have⟨hf,O⟩:=G t D;simp only at d;have E:=λ(S:Nat->Prop) (w:X4) (z:Int) (an:X3) (al:X5) (ax:X3) (so:X1 Addr) (sn sc:Nat) (h:RH S w t [.int .i64 z,.string an,.bool al,.string ax,.slice so sn sc])=>AKb h hf O;obtain⟨Q,A⟩:∃c,QG t=c:=⟨_,rfl⟩;rw[A]at d E;have HCk:=Lib.hid E;clear E A l D G X R hf O;by_cases y:Q=0
    focus
     subst y;rw[if_neg oh]at d;cases A2 d;clear d
    rotate_left
    focus
     rw[if_pos y]at d;cases A2 d;have z1:(Q==0)=false:=by simp[y]
     have z2:(Q !=0)=true:=by simp[y]
     clear d y
    all_goals
     go_enter Tryz.func167,Tryz.ntmps167
     go_wp2_with fail
     refine(HR.out _).mono ?_;intro e w2 L;obtain⟨m,z,an,al,ax,so,sn,sc,rfl,Z⟩:=L;have C:=m.heap w.heap.size (by rw[EZ];omega) (by rw[EZ];omega);rw[MP]at C;have h5:=SS C;have H:w.heap.size<w2.heap.size:=by have:=m.size;rw[EZ]at this;omega
     have FR:=Lib.hid m;have H5:=Lib.hid h5;have J:=HCk.out _ _ _ _ _ _ _ _ _ Z ((w2.alloc (.cells #[.int .i64 z,.string an,.bool al,.string ax,.slice so sn sc] 318)).alloc (.cells #[.int .i64 0,.int .i64 0] 392)) (by rw[EZ,EZ];omega) (λj _ K=>by rw[IP (by rw[EZ];omega),IP K]);have HCc:=Lib.hid J;have HT:=Lib.hid Z;clear m C h5 J Z
     go_wp2_with fail
     refine HCc.out.mono ?_;intro e w3 L;obtain⟨rfl,I⟩:=L;have⟨x0,x1,x2,x3,x4,y0,y1,y2,y3,y4⟩:=(SS (MP w2 (.cells #[.int .i64 z,.string an,.bool al,.string ax,.slice so sn sc] 318))).keep ((I.heap w2.heap.size (by rw[EZ,EZ];omega) (by rw[EZ,EZ];omega)).trans (IP (by rw[EZ];omega)));have⟨k0,k1,T,U,V,f0,f1,f2,f3,f4⟩:=H5.out.keep ((I.heap w.heap.size (by rw[EZ,EZ];omega) (by rw[EZ,EZ];omega)).trans ((IP (by rw[EZ];omega)).trans (IP H)));have h1:=I.size;rw[EZ,EZ]at h1;have B:w.heap.size<w3.heap.size:=oa;have h7:w2.heap.size<w3.heap.size:=oa;have G3:=Lib.hid I;clear I
     go_wp2_with fail
     have p:=(((((W3.refl w.heap.size w).alloc (.cells #[.int .i64 0,.string ⟨#[]⟩,.bool false,.string ⟨#[]⟩,.slice none 0 0] 318)).under FR.out (by rw[EZ];omega)).alloc (.cells #[.int .i64 z,.string an,.bool al,.string ax,.slice so sn sc] 318)).alloc (.cells #[.int .i64 0,.int .i64 0] 392)).under G3.out (by rw[EZ,EZ];omega)
     first
      |refine bodyPost_ret (v:=.tuple #[.agg #[.int .i64 0,.string ⟨#[]⟩,.bool false,.string ⟨#[]⟩,.slice none 0 0],.int .i64 (0:Nat),.int .i64 Q]) (by simp[results,Tryz.results167,go_sem,k0,k1,T,U,V,B]) rfl ⟨p.trans M7,rfl⟩
      | (have F5:=M7 (w:=w3) (g:=w.heap.size) (a':=.int .i64 z) (b':=.string an) (c':=.bool al) (d':=.string ax) (e':=.slice so sn sc)
         refine bodyPost_ret (v:=.tuple #[.agg #[.int .i64 z,.string an,.bool al,.string ax,.slice so sn sc],.int .i64 0,.int .i64 0]) (by simp[results,Tryz.results167,go_sem,k0,k1,T,U,V,B]) rfl ⟨p.trans M7,z,an,al,ax,so,sn,sc,rfl,HT.out.keep (by have:=F5.size;omega) λj K Y=>?_⟩;have K:(w.alloc _).heap.size<=j:=K;rw[EZ]at K;refine⟨(F5.heap j oa oa).trans ((G3.out.heap j (by rw[EZ,EZ];omega) (by rw[EZ,EZ];omega)).trans ((IP (by rw[EZ];omega)).trans (IP Y))),by show w.heap.size<=j;omega⟩)
def L2(d:Nat)(r:RS):Prop:=0<=r.op/\r.op<=30/\31-r.op<=d
structure GoodP(s:X3)(d:Nat)(P:PF):Prop where
 tot:∀r,r.en<=s.size->r.tx.size<=4000->L2 d r->∃F,P r=some F
 mono:∀r t r',r.en<=s.size->r.tx.size<=4000->L2 d r->P r=some (.ok (t,r'))->r.en<=r'.en/\r'.en<=s.size/\r'.op=r.op/\r'.tx.size<=4000
 zero:∀r x,r.k=0->P r≠some (.ok x)
 err:∀r a c,P r=some (.error (a,c))->c=3\/c=6
 few:∀r t r',r.en<=s.size->r.tx.size<=4000->L2 d r->P r=some (.ok (t,r'))->Few t/\hJ t
theorem A7E{a:Nat}(h:s.size<=4000):(s.extract a b).size<=4000:=by rw[CL];omega
theorem AKc(t:X3):(SB t).size=t.size:=by unfold SB;show(List.toArray _).size=_;rw[B9,Lib.toUpperA,AZ];simp
theorem XD(a:s.size<=4000){op:Int}(h:FV s en op=.ok r):en<=r.en/\r.op=op/\r.tx.size<=4000/\(r.k=0\/en<r.en):=by
 have b:=oN (l:=s.data.toList) (k:=en);unfold FV at h;split at h
 .cases h;exact⟨AD _,rfl,AT _,.inl rfl⟩
 .split at h
  .split at h
   .cases h;exact⟨oc,rfl,AT _,.inr oc⟩
   .split at h
    .cases h;exact⟨oc,rfl,AT _,.inr oc⟩
    .split at h
     .cases h;exact⟨oc,rfl,AT _,.inr oc⟩
     .cases h
  .next d=>
   split at h
   .cases h;exact⟨oc,rfl,by grind[SB,AKc,A7E],.inr oc⟩
   .split at h
    .cases h;exact⟨oc,rfl,A7E a,.inr oc⟩
    .cases h
theorem A0b(j:s.size<=4000){x:X5}(h:J0 s word r=.ok (x,r'))(l:r.tx.size<=4000):r.en<=r'.en/\r'.op=r.op/\r'.tx.size<=4000/\(x=true->r'.k=0\/r.en<r'.en):=by
 unfold J0 at h;split at h
 .grind
 .split at h
  .next e=>
   cases h;have⟨a,b,c,d⟩:=XD j e;omega
  .cases h
theorem oU{a:Nat}{c:Int}(h:J0 s word r=.error (a,c)):c=3\/c=6:=by unfold J0 at h;grind
theorem A7F(e:s.size<=4000)(h:J8 s r=.ok (x,r'))(j:r.tx.size<=4000):r.en<=r'.en/\r'.op=r.op/\r'.tx.size<=4000/\x.size<=4000/\r.k≠0:=by
 unfold J8 at h;split at h
 .cases h
 .next hk=>
  split at h
  .next d=>
   cases h;have⟨a,b,c,_⟩:=XD e d;omega
  .cases h
theorem oV{a:Nat}{c:Int}(h:J8 s r=.error (a,c)):c=3\/c=6:=by unfold J8 at h;grind
theorem AKd(J:s.size<=4000){d:Nat}{w:PF}(g:GoodP s d w):∀(m:Nat) (a:KX Tr) (r:RS),r.en<=s.size->r.tx.size<=4000->L2 d r->s.size-r.en<m->a.length+m<=5000->(∀t∈a,Few t/\hJ t)->
 ∃F,KI s word w m a r=some F/\match F with
  | .error (_,c)=>c=3\/c=6
  | .ok (k,r')=>r.en<=r'.en/\r'.en<=s.size/\r'.op=r.op/\r'.tx.size<=4000/\k.length<=5000/\∀t∈k,Few t/\hJ t:=by
 intro m;induction m with
 |zero=>omega
 |succ m N=>
  intro a r B C hd V hk l;unfold KI;cases z:J0 s word r with
  |error e=>exact⟨_,rfl,oU z⟩
  |ok x=>
   obtain⟨b,G⟩:=x;have⟨i1,L,D,M⟩:=A0b J z C;have E:=UM z B;cases b with
   |false=>grind
   |true=>
    have j:L2 d G:=by unfold L2 at *;rw[L];exact hd
    have⟨F,p⟩:=g.tot G E D j;simp only;rw[p];cases F with
    |error e=>exact⟨_,rfl,g.err _ _ _ p⟩
    |ok y=>
     obtain⟨t,H⟩:=y;have⟨W,O,Q,R⟩:=g.mono _ _ _ E D j p;have I:r.en<G.en:=by
      rcases M rfl with h|h
      .exact absurd p (g.zero _ _ h)
      .exact h
     have A:L2 d H:=by unfold L2 at *;rw[Q];exact j
     obtain ⟨F,T,U⟩:=N (a++[t]) H O R A oa (by simp; omega) (λX K=>by
      rcases AX.1 K with h|h
      .exact l _ h
      .rw[AO.1 h];exact g.few _ _ _ E D j p)
     grind
theorem AKe{d:PF}(g:∀r a c,d r=some (.error (a,c))->c=3\/c=6):∀(m:Nat) (b:KX Tr) (r:RS) (a:Nat) (c:Int),KI s word d m b r=some (.error (a,c))->c=3\/c=6:=by intro m;induction m<;>grind[KI,oU]
theorem AKf{b:PF}(g:∀r a c,b r=some (.error (a,c))->c=3\/c=6){a:Nat}{c:Int}(h:J9 s kind word b m r=some (.error (a,c))):c=3\/c=6:=by grind[J9,AKe]
theorem oW(J:s.size<=4000){d:Nat}{j:PF}(g:GoodP s d j)(N:s.size<m)(I:m<=4500):GoodP s d (J9 s kind word j m):=by
 have key:∀r,r.en<=s.size->r.tx.size<=4000->L2 d r->∃F,J9 s kind word j m r=some F/\match F with
  | .error (_,c)=>c=3\/c=6
  | .ok (t,r')=>r.en<=r'.en/\r'.en<=s.size/\r'.op=r.op/\r'.tx.size<=4000/\Few t/\hJ t:=by
  intro r l p hd;unfold J9;have⟨F,w⟩:=g.tot r l p hd;rw[w];cases F with
  |error e=>exact⟨_,rfl,g.err _ _ _ w⟩
  |ok y=>
   obtain⟨t,B⟩:=y;have⟨O,K,L,M⟩:=g.mono _ _ _ l p hd w;have H:=g.few _ _ _ l p hd w;simp only;by_cases G:B.k≠2\/B.tx≠word
   .grind
   .rw[if_neg G];have⟨F,D,E⟩:=AKd (word:=word) J g m [t] B K M (by grind[L2]) oa ot (λQ h=>oc);rw[D];cases F with
    |error e=>grind
    |ok z=>obtain⟨k,r'⟩:=z;obtain⟨a,b,c,e,f,h⟩:=E;refine⟨_,rfl,oa,b,by rw[c,L],e,.mk _ _ _ _ _ f λt A=>(h t A).1,.mk _ _ _ _ _ (AT _) (AT _) λt A=>(h t A).2⟩
 refine⟨λr a b c=>?_,λr t r' a b c h=>?_,λr x hk h=>?_,λr a c h=>?_,λr t r' a b c h=>?_⟩
 .grind
 .grind
 .unfold J9 at h;cases C:j r with
  |none=>grind
  |some F=>
   rw[C]at h;cases F with
   |error e=>cases h
   |ok y=>exact g.zero r y hk C
 .exact AKf g.err h
 grind
theorem AKg(j:s.size<=4000)(w:r.en<=s.size)(A:r.tx.size<=4000):match JJ s r with
 | .error (_,c)=>c=3\/c=6
 | .ok (t,r')=>r.en<=r'.en/\r'.en<=s.size/\r'.op=r.op/\r'.tx.size<=4000/\Few t/\hJ t/\r.k≠0:=by
 unfold JJ;cases p:J8 s r with
 |error e=>exact oV p
 |ok y=>
  obtain⟨n,B⟩:=y;have⟨U,E,V,G,H⟩:=A7F j p A;have I:=oP p w;simp only;cases a:L_ s B with
  |error e=>obtain⟨Y,Z⟩:=e;unfold L_ at a;grind
  |ok y=>
   obtain⟨l,d⟩:=y;have K:=A75 a I;have R:B.en<=d.en/\d.op=B.op/\d.tx.size<=4000:=by
    unfold L_ at a;split at a
    .split at a
     .cases a
     .next Q=>cases a;have⟨x,y,z,_⟩:=XD j Q;omega
    .grind
   obtain⟨W,J,D⟩:=R;simp only;cases b:K_ s d with
   |error e=>grind[K_,oU,oV]
   |ok y=>
    obtain⟨x,C⟩:=y;have O:=A76 b K;have T:d.en<=C.en/\C.op=d.op/\C.tx.size<=4000/\x.size<=4000:=by
     unfold K_ at b;split at b
     .cases b
     .next m=>cases b;have⟨x,y,z,_⟩:=A0b j m D;exact⟨x,y,z,AT _⟩
     .next m=>
      have⟨x,y,z,_⟩:=A0b j m D;have⟨x',y',z',u',_⟩:=A7F j b z;omega
    obtain⟨X,L,M,N⟩:=T;exact⟨oa,O,by rw[L,J,E],M,.mk _ _ _ _ _ (AT _) (λ_ h=>om),.mk _ _ _ _ _ G N (λ_ h=>om),H⟩
theorem A7G{o:Int}(h:0<=o)(a:o<=100):QD o=o:=by grind[QD,IntKind.wrap,IntKind.bits]
theorem AKh(C:s.size<=4000){d:Nat}{e:PF}(g:GoodP s d e)(z:r.en<=s.size)(hd:L2 (d+1) r):∃F,OY s e r=some F/\match F with
 | .error (_,c)=>c=3\/c=6
 | .ok (t,r')=>r.en<=r'.en/\r'.en<=s.size/\r'.op=r.op/\r'.tx.size<=4000/\Few t/\hJ t:=by
 obtain⟨L,M,N⟩:=hd;unfold OY;rw[A7G oa oa];by_cases w:30<r.op+1
 .simp_all
 .rw[if_neg w];cases B:FV s r.en (r.op+1)with
  |error a=>simp
  |ok D=>
   have⟨I,E,m,_⟩:=XD C B;have p:=NN B z;have h:L2 d D:=by unfold L2;rw[E];omega
   have⟨F,l⟩:=g.tot D p m h;simp only;rw[l];cases F with
   |error x=>exact⟨_,rfl,g.err _ _ _ l⟩
   |ok y=>
    obtain⟨t,A⟩:=y;have⟨O,H,Q,R⟩:=g.mono _ _ _ p m h l;have j:=g.few _ _ _ p m h l;simp only;by_cases hk:A.k≠5
    .grind
    .rw[if_neg hk,A7G oa oa];cases b:FV s A.en (A.op-1)with
     |error a=>simp
     |ok T=>have⟨J,K,G,_⟩:=XD C b;exact⟨_,rfl,oa,NN b H,oa,G,j.1,j.2⟩
theorem AKi(l:s.size<=4000)(y:s.size<m)(j:m<=4500):∀d,GoodP s d (N9 s m d):=by
 intro d;induction d with
 |zero=>refine⟨λr _ _ h=>?_,λr t r' _ _ _ h=>(om),λr x _ h=>(om),λr a c h=>(om),λr t r' _ _ _ h=>(om)⟩;obtain⟨C,D,E⟩:=h;omega
 |succ d B=>
  have w:=oW (kind:=3) (word:=⟨#[79,82]⟩) l (oW (kind:=2) (word:=⟨#[65,78,68]⟩) l B y j) y j;have key:∀r,r.en<=s.size->r.tx.size<=4000->L2 (d+1) r->∃F,N9 s m (d+1) r=some F/\match F with
   | .error (_,c)=>c=3\/c=6
   | .ok (t,r')=>r.en<=r'.en/\r'.en<=s.size/\r'.op=r.op/\r'.tx.size<=4000/\Few t/\hJ t:=by
   intro r e p hd;unfold N9;by_cases hk:r.k=4
   .rw[if_pos hk];exact AKh l w e hd
   .rw[if_neg hk];have:=AKg l e p;grind
  refine⟨λr a b c=>?_,λr t r' a b c h=>?_,λr x hk h=>?_,λr a c h=>?_,λr t r' a b c h=>?_⟩
  .grind
  .grind
  .unfold N9 at h;rw[if_neg oa]at h;unfold JJ J8 at h;grind
  .unfold N9 at h;by_cases hk:r.k=4
   .rw[if_pos hk]at h;unfold OY at h;split at h
    .grind
    .split at h
     .grind
     .split at h
      .cases h
      .next z=>cases h;exact w.err _ _ _ z
      grind
   .rw[if_neg hk]at h;have h:=A2 h;unfold JJ at h;split at h
    .grind[oV]
    .split at h
     .next A=>
      cases h;unfold L_ at A;grind
     grind[K_,oU,oV]
  grind
theorem A7H(h:s.size<=4000):∃F,NA s (QE s 4500 31)=some F/\match F with
 | .error (_,c)=>c=3\/c=6
 | .ok t=>Few t/\hJ t:=by
 have d:GoodP s 31 (QE s 4500 31):=oW h (oW h (AKi h oa (AD _) 31) oa (AD _)) oa (AD _);unfold NA;cases l:FV s 0 0 with
 |error a=>simp
 |ok r=>
  have⟨p,m,e,_⟩:=XD h l;have j:=NN l (AT _);have hd:L2 31 r:=by unfold L2;rw[m];omega
  have⟨F,b⟩:=d.tot r j e hd;simp only;rw[b];cases F with
  |error x=>exact⟨_,rfl,d.err _ _ _ b⟩
  |ok y=>obtain⟨t,r'⟩:=y;have:=d.few _ _ _ j e hd b;simp only;split<;>grind
end Go.Ev.Pv
