/-
  The reader of licence expressions: its walk, and what it answers.
-/
import Derived.Test.YtkmeffadhdmdhaaGreatDoorG
set_option linter.all false
set_option maxRecDepth 1000000
set_option maxHeartbeats 16000000
namespace Go.Ev.Pv
variable{s x word tx an ax:X3}{b k en g cap ab m sn sc:Nat}{w w' w'' w1 w2 w3 wx:X4}{v c d a' b' e:X2}{el:TypeId}{r r':RS}{l:KX UInt8}{S:Nat->Prop}{t:Tr}{vs:KX (KX X2)}{news:KX X2}{R:Nat->X4->Prop}{kind:Int}{FL:Except (Nat×Int) (KX Tr×RS)}{so:X1 Addr}{tmps:Array X2}{F:Except (Nat×Int) (Tr×RS)}
open Go.Proofs Go.RowKit
theorem tj:Tryz.prog.follows Departure.mixedOrders=true:=oe
def oM(a c:Int):X2:=.iface 392 (.agg #[.int .i64 a,.int .i64 c])
def QW(a c:Int):KX PanicEntry:=[{v:=oM a c,recovered:=false}]
theorem X9(a c:Int)(w:X4):Calls Tryz.prog 299 #[.int .i64 a,.int .i64 c] w λe w'=>e=.panicked (QW a c)/\w'=w:=by have m:=tj;go_enter Tryz.func299,Tryz.ntmps299;go_wp2;simp only[Instr.panic,Sem.run,Result.andThen,Oper.upon];exact⟨rfl,rfl,rfl⟩
theorem bQ(c:UInt8)(w:X4):Calls Tryz.prog 329 #[.int .u8 (c.toNat:Int)] w λe w'=>e=.returned (.bool (KH c))/\w=w':=by
 have m:=tj;have a:∀b:X5,KH c=b->Ending.returned (.bool b)=.returned (.bool (KH c)):=λb h=>by rw[h]
 go_enter Tryz.func329,Tryz.ntmps329;go_wp2
 all_goals
  go_ret;refine⟨a _ ?_,rfl⟩;unfold KH;rw[Bool.eq_iff_iff];simp;try omega
theorem A0R(s:X3)(w:X4):Calls Tryz.prog 330 #[.string s] w λe w'=>e=.returned (.bool (KZ s))/\w=w':=by
 have m:=tj;have a:∀b:X5,KZ s=b->Ending.returned (.bool b)=.returned (.bool (KZ s)):=λb h=>by rw[h]
 go_enter Tryz.func330,Tryz.ntmps330;go_wp2
 all_goals
  go_ret;refine⟨a _ ?_,rfl⟩;unfold KZ wordL;simp_all
theorem AJm(h:0<s.size):s.data.toList.headD 0=s[0]:=by
 have a:0<s.data.toList.length:=by simpa using h
 rw[List.headD_eq_head?_getD,List.head?_eq_getElem?,A1 a];simp;rfl
theorem AJn(h:s.size=0):s.toList=[]:=by simp_all
theorem AJo(h:0<s.size):(s.toList== [])=false:=by
 rw[ByteArray.toList_eq];cases b:s.data.toList with
 |nil=>have d:s.data.toList.length=s.size:=oh;grind
 |cons a l=>rfl
theorem A0S(s:X3)(w:X4)(I:s.size<=4000):Calls Tryz.prog 332 #[.string s] w λe w'=>e=.returned (.bool (HG s))/\w=w':=by
 have D:=tj;have m:∀b:X5,HG s=b->Ending.returned (.bool b)=.returned (.bool (HG s)):=λb h=>by rw[h]
 by_cases h0:s.size=0
 .have e0:s.toList=[]:=AJn h0;have H:(s.toList== [])=true:=by rw[e0];rfl
  have HE:Hid (HG s=false):=Lib.hid (by unfold HG;simp[h0]);clear e0 h0;go_enter Tryz.func332,Tryz.ntmps332;go_wp2
  all_goals
   go_ret;exact⟨m _ HE.out,rfl⟩
 have z:0<s.size:=oa;have H:(s.toList== [])=false:=AJo z;clear h0;by_cases A:s.size<=60
 rotate_left
 .have HE:Hid (HG s=false):=Lib.hid (by unfold HG;simp[A]);have A:60<s.size:=oa;go_enter Tryz.func332,Tryz.ntmps332;go_wp2
  all_goals
   go_ret;exact⟨m _ HE.out,rfl⟩
 have y:=AJm z;cases j:(s.data.toList.headD 0==46:X5)with
 |true=>
  have HE:Hid (HG s=false):=Lib.hid (by grind[HG]);rw[y]at j;have E:((s[0].toNat:Int)==46)=true:=by rw[CM.1 j];rfl
  clear j y;go_enter Tryz.func332,Tryz.ntmps332;go_wp2
  all_goals
   go_ret;exact⟨m _ HE.out,rfl⟩
 |false=>
 cases x:(s.data.toList.headD 0==45:X5)with
 |true=>
  have HE:Hid (HG s=false):=Lib.hid (by grind[HG]);rw[y]at j x;have E:((s[0].toNat:Int)==46)=false:=by rw[CM.1 x];rfl
  have G:((s[0].toNat:Int)==45)=true:=by rw[CM.1 x];rfl
  clear j x y;go_enter Tryz.func332,Tryz.ntmps332;go_wp2
  all_goals
   go_ret;exact⟨m _ HE.out,rfl⟩
 |false=>
 have HF:Hid (HG s=(!(KZ s)&&s.data.toList.all KH)):=Lib.hid (by grind[HG,decide_eq_true]);rw[y]at j x;have E:((s[0].toNat:Int)==46)=false:=by
  cases h:((s[0].toNat:Int)==46)with
  |false=>rfl
  |true=>have:s[0]=46:=UInt8.toNat_inj.1 oc;grind
 have G:((s[0].toNat:Int)==45)=false:=by
  cases h:((s[0].toNat:Int)==45)with
  |false=>rfl
  |true=>have:s[0]=45:=UInt8.toNat_inj.1 oc;grind
 clear j x y;cases C:KZ s with
 |true=>
  have HE:Hid (HG s=false):=Lib.hid (by rw[HF.out,C];rfl);have d:∀W,Calls Tryz.prog 330 #[.string s] W λe w'=>e=.returned (.bool true)/\W=w':=λW=>by grind[A0R]
  clear C;have HC:=Lib.hid d;clear d;go_enter Tryz.func332,Tryz.ntmps332
  go_wp2_with (refine(HC.out _).mono ?_;rintro e w' ⟨rfl,rfl⟩)
  all_goals
   go_ret;exact⟨m _ HE.out,rfl⟩
 |false=>
  have d:∀W,Calls Tryz.prog 330 #[.string s] W λe w'=>e=.returned (.bool false)/\W=w':=λW=>by grind[A0R]
  have HA:Hid (HG s=s.data.toList.all KH):=Lib.hid (by rw[HF.out,C];rfl);clear C;have HC:=Lib.hid d;clear d HF;go_enter Tryz.func332,Tryz.ntmps332
  go_wp2_with (refine(HC.out _).mono ?_;rintro e w' ⟨rfl,rfl⟩)
  go_loop [27] (λt=>∃k:Nat,k<=s.size/\(s.data.toList.take k).all KH=true/\t=.int .i64 k) (λt=>s.size-(RowKit.intOf t).toNat)
  case atStart=>grind
  case round=>
   obtain⟨k,hk,B,rfl⟩:=hrel;have HK:=Lib.hid B;clear B;by_cases l:k<s.size
   .cases p:KH s[k]with
    |true=>
     have d:∀W,Calls Tryz.prog 329 #[.int .u8 (s[k].toNat:Int)] W λe w'=>e=.returned (.bool true)/\W=w':=λW=>by grind[bQ]
     have a:(s.data.toList.take (k+1)).all KH=true:=by
      rw[List.take_succ_eq_append_getElem (by simpa using l),List.all_append,HK.out];have e:s.data.toList[k]'(by simpa using l)=s[k]:=by simp;rfl
      rw[e];simp[p]
     have HN:=Lib.hid a;have HC2:=Lib.hid d;clear d a p
     go_wp2_with (refine(HC2.out _).mono ?_;rintro e w' ⟨rfl,rfl⟩)
     go_round
     case rel=>exact⟨k+1,oa,HN.out,by go_num⟩
     case measure=>simp[RowKit.intOf];omega
    |false=>
     have d:∀W,Calls Tryz.prog 329 #[.int .u8 (s[k].toNat:Int)] W λe w'=>e=.returned (.bool false)/\W=w':=λW=>by grind[bQ]
     have a:HG s=false:=by rw[HA.out];rw[List.all_eq_false];exact⟨s[k],AG (l:=s.data.toList) (n:=k) (by simpa using l),oc⟩
     have HN:=Lib.hid a;have HC2:=Lib.hid d;clear d a p
     go_wp2_with (refine(HC2.out _).mono ?_;rintro e w' ⟨rfl,rfl⟩)
     go_ret;exact⟨m _ HN.out,rfl⟩
   .obtain rfl:k=s.size:=oa;have a:HG s=true:=by rw[HA.out];have:=HK.out;rw[CV oh]at this;exact this
    have HN:=Lib.hid a;clear a;go_wp2;go_ret;exact⟨m _ HN.out,rfl⟩
def A6n(s:X3)(r:RS):Array X2:=#[.string s,.int .i64 r.en,.int .i64 r.k,.string r.tx,.int .i64 r.at_,.bool r.tg,.int .i64 r.op]
def PA(w:X4)(b:Nat)(s:X3)(r:RS):Prop:=w.heap[b]?=some (.cells (A6n s r) 458 (0,0))
structure W3(b:Nat)(w w':X4):Prop where
 size:w.heap.size<=w'.heap.size
 heap:∀j,j<w.heap.size->j≠b->w'.heap[j]?=w.heap[j]?
 os:w'.os=w.os
 tape:w'.tape=w.tape
 out:w'.output=w.output
theorem W3.refl(b:Nat)(w:X4):W3 b w w:=⟨AD _,λ_ _ _=>rfl,rfl,rfl,rfl⟩
theorem W3.trans(h:W3 b w w')(k:W3 b w' w''):W3 b w w'':=
 ⟨AM h.size k.size,λj d a=>(k.heap j (AQ d h.size) a).trans (h.heap j d a),k.os.trans h.os,k.tape.trans h.tape,k.out.trans h.out⟩
theorem heap_setCell{i:Nat}{j:Nat}(h:b≠j):(w.setCell ⟨b,i,none⟩ v).heap[j]?=w.heap[j]?:=by simp only[World.setCell,Array.getElem?_modify,if_neg h]
theorem JL{i:Nat}{c:Array X2}{fz:Nat×Nat}(h:w.heap[b]?=some (.cells c el fz)):(w.setCell ⟨b,i,none⟩ v).heap[b]?=some (.cells (c.setIfInBounds i v) el fz):=by simp only[World.setCell,Array.getElem?_modify,if_true,h];rfl
theorem IP{o:Go.Obj}{j:Nat}(h:j<w.heap.size):(w.alloc o).heap[j]?=w.heap[j]?:=(MapKept.heap_alloc w o).2 j h
theorem W3.set(h:W3 b w w'){c i:Nat}(a:c=b\/w.heap.size<=c):W3 b w (w'.setCell ⟨c,i,none⟩ v):=by refine⟨by simpa[World.setCell]using h.size,λj e d=>?_,h.os,h.tape,h.out⟩;rw[heap_setCell (by rcases a with rfl|a<;>omega)];exact h.heap j e d
theorem W3.alloc(h:W3 b w w')(o:Go.Obj):W3 b w (w'.alloc o):=by refine⟨by have:=h.size;simp;omega,λj a d=>?_,h.os,h.tape,h.out⟩;rw[IP (AQ a h.size)];exact h.heap j a d
theorem W3.drew(h:W3 b w w'):W3 b w w'.drew:=⟨h.size,h.heap,h.os,h.tape,h.out⟩
theorem W3.below(h:W3 b w w')(k:Below w'.heap.size w' w''):W3 b w w'':=h.trans ⟨k.size,λj a _=>k.block j a,k.os,k.tape,k.output⟩
theorem AJp{W:X4}(a:Below W.heap.size W w1):(∀b o,b<W.heap.size->w1.cell? ⟨b,o,none⟩=W.cell? ⟨b,o,none⟩)/\(∀b o,b<W.heap.size->w1.frozen? ⟨b,o,none⟩=W.frozen? ⟨b,o,none⟩):=
 ⟨λb o h=>a.cell (p:=⟨b,o,none⟩) h,λb o h=>a.frozen (p:=⟨b,o,none⟩) h⟩
theorem PA.lt(h:PA w b s r):b<w.heap.size:=(B6.1 h).1
theorem PA.alloc(h:PA w b s r)(o:Go.Obj):PA (w.alloc o) b s r:=(IP h.lt).trans h
theorem PA.frm{c:Nat}(h:PA w b s r)(f:W3 c w w')(a:c≠b):PA w' b s r:=(f.heap b h.lt (λe=>a e.symm)).trans h
theorem PA.cell(h:PA w b s r):
 w.cell? ⟨b,0,none⟩=some (.string s)/\w.cell? ⟨b,1,none⟩=some (.int .i64 r.en)/\w.cell? ⟨b,2,none⟩=some (.int .i64 r.k)/\w.cell? ⟨b,3,none⟩=some (.string r.tx)/\w.cell? ⟨b,4,none⟩=some (.int .i64 r.at_)/\
  w.cell? ⟨b,5,none⟩=some (.bool r.tg)/\w.cell? ⟨b,6,none⟩=some (.int .i64 r.op)/\∀i,w.frozen? ⟨b,i,none⟩=false:=by
 simp_all[PA,World.cell?,World.frozen?,A6n]
theorem A6o(h:k<l.length)(a:N8 l[k]=true):FE l (k+1)=FE l k:=by grind[FE,List.drop_eq_getElem_cons,List.takeWhile_cons_of_pos]
theorem A6p(h:k<l.length)(a:KH l[k]=true):K4 l k=K4 l (k+1)+1:=by grind[K4,List.drop_eq_getElem_cons,List.takeWhile_cons_of_pos]
theorem A0T(h:k<=l.length):FE l k<=l.length:=by grind[FE,List.takeWhile_prefix,N8]
theorem oN:k<=FE l k:=Nat.le_add_right _ _
theorem A6q(h:k<=l.length):k+K4 l k<=l.length:=by grind[K4,List.takeWhile_prefix,KH]
theorem A6r{p:UInt8->X5}{i:Nat}(h:i<(l.takeWhile p).length)(b:i<l.length):p l[i]=true:=by have a:=List.all_takeWhile (p:=p) (l:=l);have:=BW.1 a _ (AG h);have e:(l.takeWhile p)[i]=l[i]:=(List.takeWhile_prefix p).getElem h;grind
theorem gd(a:k<s.data.toList.length)(h:k<s.size):s.data.toList[k]'a=s[k]'h:=by simp;rfl
theorem A6s{a:Nat}(d:FE s.data.toList en=a)(e:en<=k)(j:k<a)(l:k<s.size):N8 s[k]=true:=by have h:s.data.toList.length=s.size:=oh;unfold FE at d;have b:k-en<((s.data.toList.drop en).takeWhile N8).length:=oa;have:=A6r b oc;rw[List.getElem_drop]at this;grind[gd]
theorem AJq{a:Nat}(w:en<=s.size)(d:FE s.data.toList en=a)(m:a<s.size):N8 s[a]=false:=by
 have b:s.data.toList.length=s.size:=oh;cases h:N8 s[a]with
 |false=>rfl
 |true=>
  have p:N8 (s.data.toList[a]'(oa))=true:=by rw[gd _ m];exact h
  have e:∀(n k:Nat),k+n=a->en<=k->FE s.data.toList k=FE s.data.toList a:=by
   intro n;induction n with
   |zero=>simp
   |succ n y=>
    intro k x l;have hk:k<s.data.toList.length:=by rw[b];omega
    have:=A6s (k:=k) d l oa oa;rw[<-A6o hk (by assumption)];grind
  have j:=e (a-en) en (by grind[oN]) (AD _);rw[d,<-A6o oa p]at j;grind[oN]
theorem A6t{a n:Nat}(d:K4 s.data.toList a=n)(e:k<n)(b:a+k<s.size):KH s[a+k]=true:=by have h:s.data.toList.length=s.size:=oh;unfold K4 at d;have:=A6r (l:=s.data.toList.drop a) (p:=KH) (i:=k) oa oc;rw[List.getElem_drop,gd _ b]at this;exact this
theorem A6u{a n:Nat}(d:K4 s.data.toList a=n)(l:a+n<s.size):KH s[a+n]=false:=by
 have b:s.data.toList.length=s.size:=oh;cases h:KH s[a+n]with
 |false=>rfl
 |true=>
  have e:∀(m k:Nat),k+m=n->K4 s.data.toList (a+k)=m+K4 s.data.toList (a+n):=by
   intro m;induction m with
   |zero=>simp
   |succ m p=>
    intro k w;have hk:a+k<s.data.toList.length:=by rw[b];omega
    have:=A6t (k:=k) d oa oa;rw[A6p hk (by assumption)];have:=p (k+1) oa;grind
  have j:=e n 0 oa;rw[CG,d,A6p oa (by rw[gd _ l];exact h)]at j;omega
theorem AJr{c:UInt8}(h:N8 c=true):c=32\/c=9\/c=10:=by simp only[N8,CD,CM]at h;grind
theorem XA{c d:UInt8}{n:Int}(hd:(d.toNat:Int)=n)(h:c≠d):((c.toNat:Int)==n)=false:=by
 cases a:((c.toNat:Int)==n)with
 |false=>rfl
 |true=>have:=CM.1 a;grind[absurd,UInt8.toNat_inj,Int.ofNat.inj]
theorem A0U{c d:UInt8}{n:Int}(hd:(d.toNat:Int)=n)(h:c=d):((c.toNat:Int)==n)=true:=by grind
theorem AJs{c:UInt8}(h:N8 c=false):((c.toNat:Int)==32)=false/\((c.toNat:Int)==9)=false/\((c.toNat:Int)==10)=false:=by simp only[N8,BQ,beq_eq_false_iff_ne]at h;exact⟨XA (d:=32) rfl h.1.1,XA (d:=9) rfl h.1.2,XA (d:=10) rfl h.2⟩
def J1(w:X4)(b:Nat)(s:X3)(en:Nat)(op:Int)(e:Ending)(w':X4):Prop:=match FV s en op with
 | .ok r=>e=.returned (.tuple #[])/\PA w' b s r/\W3 b w w'
 | .error a=>e=.panicked (QW a 6)/\W3 b w w'
theorem oO{op:Int}(h:FV s en op=.ok r)(a:PA w' b s r)(d:W3 b w w'):J1 w b s en op (.returned (.tuple #[])) w':=by unfold J1;grind
theorem A6v{op:Int}{a:Nat}(h:FV s en op=.error a)(d:W3 b w w'):J1 w b s en op (.panicked (QW a 6)) w':=by unfold J1;grind
def A6w:Prop:=∀(t:X3) (W:X4),KZ t=true->Calls Tryz.prog 331 #[.string t] W λe w'=>e=.returned (.string (SB t))/\Below W.heap.size W w'
def NM:Prop:=∀(b:Nat) (s:X3) (r:RS) (w:X4),s.size<=4000->r.en<=s.size->PA w b s r->Calls Tryz.prog 297 #[.pointer (some ⟨b,0,none⟩)] w (J1 w b s r.en r.op)
def P5{α:Type}(w:X4)(b:Nat)(s:X3)(F:Except (Nat×Int) (α×RS))(V:α->X4->X2->Prop)(e:Ending)(w':X4):Prop:=match F with
 | .ok (x,r)=>∃v,e=.returned v/\V x w' v/\PA w' b s r/\W3 b w w'
 | .error (a,c)=>e=.panicked (QW a c)/\W3 b w w'
theorem OD{α:Type}{F:Except (Nat×Int) (α×RS)}{V:α->X4->X2->Prop}{x:α}(h:F=.ok (x,r))(a:V x w' v)(d:PA w' b s r)(e:W3 b w w'):P5 w b s F V (.returned v) w':=by rw[h];exact⟨v,rfl,a,d,e⟩
theorem K6{α:Type}{F:Except (Nat×Int) (α×RS)}{V:α->X4->X2->Prop}{a:Nat}{c:Int}(h:F=.error (a,c))(d:W3 b w w'):P5 w b s F V (.panicked (QW a c)) w':=by rw[h];exact⟨rfl,d⟩
theorem A0V{y:X3}:(x.toList==y.toList)=decide (x=y):=by rw[ByteArray.toList_eq,ByteArray.toList_eq,Bool.eq_iff_iff];simp only[CM,B3];refine⟨λh=>?_,λh=>by rw[h]⟩;cases x;simp_all
theorem A6x(D:NM)(b:Nat)(s word:X3)(r:RS)(w:X4)(Q:s.size<=4000)(z:r.en<=s.size)(p:PA w b s r):
 Calls Tryz.prog 357 #[.pointer (some ⟨b,0,none⟩),.string word] w (P5 w b s (J0 s word r) λx _ v=>v=.bool x):=by
 have B:=tj;obtain⟨en,k,tx,d,tg,op⟩:=r;have HR:=Lib.hid p;have E:=D b s _ w Q z p;have HN:=Lib.hid E;obtain⟨h0,G,H,I,J,K,L,M⟩:=p.cell;simp only at G H I J K L;clear M p D E;by_cases hk:k=2
 rotate_left
 .have N:(k==2)=false:=by simp[hk]
  have O:(k !=2)=true:=by simp[hk]
  have HF:=Lib.hid (show J0 s word ⟨en,k,tx,d,tg,op⟩=.ok (false,_) by unfold J0;rw[if_pos (.inl hk)]);clear hk;go_enter Tryz.func357,Tryz.ntmps357;go_wp2;go_ret;exact OD HF.out rfl HR.out (W3.refl b w)
 subst hk;by_cases y:tx=word
 rotate_left
 .have A:(tx.toList==word.toList)=false:=by rw[A0V];simp[y]
  have R:(tx.toList !=word.toList)=true:=by rw[bne,A];rfl
  have HF:=Lib.hid (show J0 s word ⟨en,2,tx,d,tg,op⟩=.ok (false,_) by unfold J0;rw[if_pos (.inr y)]);clear y;go_enter Tryz.func357,Tryz.ntmps357;go_wp2;go_ret;exact OD HF.out rfl HR.out (W3.refl b w)
 subst y;have l:J0 s tx ⟨en,2,tx,d,tg,op⟩=match FV s en op with
  | .ok r=>.ok (true,r)
  | .error a=>.error (a,6):=by unfold J0;rw[if_neg oh]<;>rfl
 have HF:=Lib.hid l;clear l;cases m:FV s en op with
 |ok r=>
  have HT:=Lib.hid m;have HF2:=Lib.hid (show J0 s tx ⟨en,2,tx,d,tg,op⟩=.ok (true,r) by rw[HF.out,HT.out]);clear m HF;go_enter Tryz.func357,Tryz.ntmps357
  go_wp2_with (refine(HN.out).mono ?_;intro e w1 h;unfold J1 at h;rw[HT.out]at h;obtain⟨rfl,C,j⟩:=h;have G1:=Lib.hid C;have G2:=Lib.hid j;clear C j)
  go_ret;exact OD HF2.out rfl G1.out G2.out
 |error a=>
  have HT:=Lib.hid m;have HF2:=Lib.hid (show J0 s tx ⟨en,2,tx,d,tg,op⟩=.error (a,6) by rw[HF.out,HT.out]);clear m HF;go_enter Tryz.func357,Tryz.ntmps357
  go_wp2_with (refine(HN.out).mono ?_;intro e w1 h;unfold J1 at h;rw[HT.out]at h;obtain⟨rfl,j⟩:=h;have G2:=Lib.hid j;clear j)
  exact⟨rfl,K6 HF2.out G2.out⟩
theorem A6y(C:NM)(b:Nat)(s:X3)(r:RS)(w:X4)(Q:s.size<=4000)(y:r.en<=s.size)(p:PA w b s r):
 Calls Tryz.prog 372 #[.pointer (some ⟨b,0,none⟩)] w (P5 w b s (J8 s r) λx _ v=>v=.string x):=by
 have A:=tj;obtain⟨en,k,tx,d,tg,op⟩:=r;have HR:=Lib.hid p;have D:=C b s _ w Q y p;have HN:=Lib.hid D;obtain⟨h0,E,G,H,I,J,K,L⟩:=p.cell;simp only at E G H I J K;clear L p C D;by_cases hk:k=1
 rotate_left
 .have N:(k==1)=false:=by simp[hk]
  have O:(k !=1)=true:=by simp[hk]
  have HF:=Lib.hid (show J8 s ⟨en,k,tx,d,tg,op⟩=.error (d,6) by unfold J8;rw[if_pos hk]);clear hk;go_enter Tryz.func372,Tryz.ntmps372
  go_wp2_with (refine(X9 _ _ _).mono ?_;intro e w' M;obtain⟨rfl,z⟩:=M;replace z:=z.symm;subst z)
  exact⟨rfl,K6 HF.out (W3.refl b w)⟩
 subst hk;have l:J8 s ⟨en,1,tx,d,tg,op⟩=match FV s en op with
  | .ok r=>.ok (tx,r)
  | .error a=>.error (a,6):=by unfold J8;rw[if_neg oh]<;>rfl
 have HF:=Lib.hid l;clear l;cases m:FV s en op with
 |ok r=>
  have HT:=Lib.hid m;have HF2:=Lib.hid (show J8 s ⟨en,1,tx,d,tg,op⟩=.ok (tx,r) by rw[HF.out,HT.out]);clear m HF;go_enter Tryz.func372,Tryz.ntmps372
  go_wp2_with (refine(HN.out).mono ?_;intro e w1 h;unfold J1 at h;rw[HT.out]at h;obtain⟨rfl,B,j⟩:=h;have G1:=Lib.hid B;have G2:=Lib.hid j;clear B j)
  go_ret;exact OD HF2.out rfl G1.out G2.out
 |error a=>
  have HT:=Lib.hid m;have HF2:=Lib.hid (show J8 s ⟨en,1,tx,d,tg,op⟩=.error (a,6) by rw[HF.out,HT.out]);clear m HF;go_enter Tryz.func372,Tryz.ntmps372
  go_wp2_with (refine(HN.out).mono ?_;intro e w1 h;unfold J1 at h;rw[HT.out]at h;obtain⟨rfl,j⟩:=h;have G2:=Lib.hid j;clear j)
  exact⟨rfl,K6 HF2.out G2.out⟩
theorem M7{c' d' e':X2}:W3 g w (((((w.setCell ⟨g,0,none⟩ a').setCell ⟨g,1,none⟩ b').setCell ⟨g,2,none⟩ c').setCell ⟨g,3,none⟩ d').setCell ⟨g,4,none⟩ e'):=
 (((((W3.refl g w).set (.inl rfl)).set (.inl rfl)).set (.inl rfl)).set (.inl rfl)).set (.inl rfl)
theorem AJt:W3 g w ((w.setCell ⟨g,0,none⟩ a').setCell ⟨g,1,none⟩ b'):=((W3.refl g w).set (.inl rfl)).set (.inl rfl)
theorem W3.under{c:Nat}(h:W3 b w w')(k:W3 c w' w'')(e:w.heap.size<=c):W3 b w w'':=
 ⟨AM h.size k.size,λj a d=>(k.heap j (AQ a h.size) oa).trans (h.heap j a d),k.os.trans h.os,k.tape.trans h.tape,k.out.trans h.out⟩
inductive RH (S:Nat->Prop) (w:World):Tr->List Value->Prop
 |leaf (k:Int) (n:ByteArray) (l:Bool) (x:ByteArray):RH S w (.node k n l x []) [.int .i64 k,.string n,.bool l,.string x,.slice none 0 0]
 |node (k:Int) (n:ByteArray) (l:Bool) (x:ByteArray) (kids:List Tr) (g cap:Nat) (vs:List (List Value)) (hS:S g) (hlt:g<w.heap.size) (hc:kids.length<=cap) (hl:vs.length=kids.length)
  (hx:∀(i:Nat) (v:List Value),vs[i]?=some v->∀(j:Nat) (u:Value),v[j]?=some u->w.cell? ⟨g,i*5+j,none⟩=some u)
  (hk:∀(i:Nat) (t:Tr) (v:List Value),kids[i]?=some t->vs[i]?=some v->RH S w t v):
  RH S w (.node k n l x kids) [.int .i64 k,.string n,.bool l,.string x,.slice (some ⟨g,0,none⟩) kids.length cap]
theorem RH.five{l:KX X2}(h:RH S w t l):l.length=5:=by cases h<;>rfl
theorem RH.one{l:KX X2}(h:RH S w t l):∀u∈l,u.oneCell'=true:=by cases h<;>(intro u a;simp at a;rcases a with rfl|rfl|rfl|rfl|rfl<;>rfl)
theorem GY(h:w'.heap[g]?=w.heap[g]?)(i:Nat):w'.cell? ⟨g,i,none⟩=w.cell? ⟨g,i,none⟩:=by simp only[World.cell?,h]
theorem P6(h:w'.heap[g]?=w.heap[g]?)(i:Nat):w'.frozen? ⟨g,i,none⟩=w.frozen? ⟨g,i,none⟩:=by simp only[World.frozen?,h]
theorem RH.keep{S':Nat->Prop}(y:w.heap.size<=w'.heap.size)(h:∀j,S j->j<w.heap.size->w'.heap[j]?=w.heap[j]? /\S' j){l:KX X2}(z:RH S w t l):RH S' w' t l:=by
 induction z with
 |leaf k n l x=>exact .leaf k n l x
 |node k n l x b g cap vs m a p s C hk D=>have⟨e,d⟩:=h g m a;exact .node k n l x b g cap vs d (AQ a y) p s (λi v B j u A=>(GY e _).trans (C i v B j u A)) D
theorem W3.setCells:∀{vs:KX X2} {w':X4},W3 b w w'->∀{c:Nat},c=b\/w.heap.size<=c->∀{o:Nat},W3 b w (w'.setCells c o vs):=by
 intro vs;induction vs with
 |nil=>intro w' h c _ o;exact h
 |cons v r d=>intro w' h c a o;exact d (h.set a) a
theorem AJu(c:Nat):∀(vs:KX X2) (o:Nat) (w:X4),(w.setCells c o vs).heap.size=w.heap.size:=by
 intro vs;induction vs with
 |nil=>intro o w;rfl
 |cons v r a=>intro o w;rw[show w.setCells c o (v::r)=(w.setCell ⟨c,o,none⟩ v).setCells c (o+1) r from rfl,a];simp
structure Q9(w:X4)(g cap:Nat)(vs:KX (KX X2)):Prop where
 lt:g<w.heap.size
 le:vs.length<=cap
 five:∀v∈vs,v.length=5
 cells:∀(i:Nat) (v:KX X2),vs[i]?=some v->∀(j:Nat) (u:X2),v[j]?=some u->w.cell? ⟨g,i*5+j,none⟩=some u
 there:∀j,j<cap*5->(w.cell? ⟨g,j,none⟩).isSome=true
 free:∀j,w.frozen? ⟨g,j,none⟩=false
theorem Q9.keep(h:Q9 w g cap vs)(b:w.heap.size<=w'.heap.size)(e:w'.heap[g]?=w.heap[g]?):Q9 w' g cap vs:=
 ⟨AQ h.lt b,h.le,h.five,λi v l j u d=>(GY e _).trans (h.cells i v l j u d),λj a=>by rw[GY e];exact h.there j a,λj=>(P6 e j).trans (h.free j)⟩
noncomputable def zLic:X2:=(Tryz.t318.zero).getD default
theorem A0W:Tryz.prog.info? 318=some Tryz.t318/\Tryz.t318.zero=some zLic/\Tryz.t318.size=5/\Tryz.t318.bytes=72/\zLic.cells.size=5:=⟨oe,oe,oe,oe,oe⟩
theorem AJv(W:X4)(l:Q9 W g cap vs)(a:vs.length+1<=cap)(s:news.length=5)(m:∀u∈news,u.oneCell'=true)
 (p:∀(j:Nat) (u:X2),news[j]?=some u->W.cell? ⟨ab,j,none⟩=some u)(ty:TypeId):
 (Builtin.append_ #[316,316] ty #[.slice (some ⟨g,0,none⟩) vs.length cap,.slice (some ⟨ab,0,none⟩) 1 1]).run Tryz.prog W=.ok (.slice (some ⟨g,0,none⟩) (vs.length+1) cap) (W.setCells g (vs.length*5) news):=by
 obtain⟨hi,y,e,x,w⟩:=A0W;have b:Src Tryz.prog Tryz.t318.size 316 (.slice (some ⟨ab,0,none⟩) 1 1) 1 news W:=Src.ofSlice W Tryz.underlying316 ⟨ab,0,none⟩ 1 1 news (by rw[e];omega) (λj u d=>by rw[Addr.add_lit,BH];exact p j u d) m;have h:=run_append_room_src W 316 316 ty 318 _ Tryz.underlying316 hi g 0 vs.length cap _ 1 news b a (by rw[e,s];intro j d;rw[BH];exact l.there _ oa) (by rw[e];intro j d;exact l.free _);grind
theorem A6z:(∀v∈vs,v.length=5)->vs.flatten.length=vs.length*5:=by induction vs<;>grind
theorem AJw(h:∀v∈vs,v.length=5):∀{i j:Nat} {v:KX X2} {u:X2},vs[i]?=some v->v[j]?=some u->vs.flatten[i*5+j]?=some u:=by
 induction vs with
 |nil=>simp
 |cons a r l=>intro i j v u e d;have b:=h a AF;rw[List.flatten_cons];cases i<;>grind
theorem AJx(h:∀v∈vs,v.length=5):∀{q:Nat} {u:X2},vs.flatten[q]?=some u->∃v,vs[q / 5]?=some v/\v[q % 5]?=some u:=by
 induction vs with
 |nil=>simp
 |cons a r e=>intro q u b;have d:=h a AF;rw[List.flatten_cons]at b;grind[List.getElem?_append_left,Nat.div_eq_of_lt,Nat.mod_eq_of_lt,List.getElem?_append_right,List.mem_cons_of_mem]
theorem AJy(W:X4)(h:Q9 W g cap vs)(b:cap<vs.length+1)(d:vs.length<=1048576)(C:news.length=5)(p:∀u∈news,u.oneCell'=true)
 (y:∀(j:Nat) (u:X2),news[j]?=some u->W.cell? ⟨ab,j,none⟩=some u)(ty:TypeId):
 (Builtin.append_ #[316,316] ty #[.slice (some ⟨g,0,none⟩) vs.length cap,.slice (some ⟨ab,0,none⟩) 1 1]).run Tryz.prog W=.ok (.slice (some ⟨W.heap.size,0,none⟩) (vs.length+1) (grownCap W (vs.length+1) cap 318))
  (W.drew.alloc (.cells ((vs.flatten++news).toArray++Builtin.zeroCells zLic.cells (grownCap W (vs.length+1) cap 318-(vs.length+1))) 318)):=by
 obtain⟨hi,D,l,B,A⟩:=A0W;have z:=h.le;have m:Src Tryz.prog Tryz.t318.size 316 (.slice (some ⟨ab,0,none⟩) 1 1) 1 news W:=Src.ofSlice W Tryz.underlying316 ⟨ab,0,none⟩ 1 1 news (by rw[l];omega) (λj u a=>by rw[Addr.add_lit,BH];exact y j u a) p;have e:(Builtin.firstCells Tryz.t318.size vs.length (.slice (some ⟨g,0,none⟩) vs.length cap)).run Tryz.prog W.drew=.ok vs.flatten.toArray W.drew:=by
  rw[l];exact run_firstCells_some W.drew 5 vs.length ⟨g,0,none⟩ vs.length cap vs.flatten (A6z h.five) (λj v a=>by have⟨x,s,w⟩:=AJx h.five a;have:=h.cells _ _ s _ _ w;rw[Addr.add_lit,BH];rw[show j / 5*5+j % 5=j by omega]at this;exact this)
 grind[run_append_grow_src,zLic,Tryz.underlying316,growslice_fits]
theorem EZ(w:X4)(o:Go.Obj):(w.alloc o).heap.size=w.heap.size+1:=oh
theorem MP(w:X4)(o:Go.Obj):(w.alloc o).heap[w.heap.size]?=some o:=(MapKept.heap_alloc w o).1
theorem AJz{o:Nat}{vs:KX X2}(h:∀j,j<vs.length->(w.cell? ⟨g,o+j,none⟩).isSome=true){j:Nat}(b:vs[j]?=some v):(w.setCells g o vs).cell? ⟨g,o+j,none⟩=some v:=by have a:=(A3.1 b);rw[World.cell?_setCells_in g vs o w h j a.1];exact congrArg some a.2
theorem AK0(W:X4)(b:Q9 W g cap vs)(z:vs.length<=1048576)(B:news.length=5)(L:∀u∈news,u.oneCell'=true)
 (M:∀(j:Nat) (u:X2),news[j]?=some u->W.cell? ⟨ab,j,none⟩=some u):
 ∃E p W2,(∀ty,(Builtin.append_ #[316,316] ty #[.slice (some ⟨g,0,none⟩) vs.length cap,.slice (some ⟨ab,0,none⟩) 1 1]).run Tryz.prog W=.ok (.slice (some ⟨E,0,none⟩) (vs.length+1) p) W2)/\
  Q9 W2 E p (vs++[news])/\W3 g W W2/\(E=g\/W.heap.size<=E):=by
 have N:=b.le;by_cases a:vs.length+1<=cap
 .have x:∀j,j<news.length->(W.cell? ⟨g,vs.length*5+j,none⟩).isSome=true:=λj G=>b.there _ oa;refine⟨g,cap,W.setCells g (vs.length*5) news,AJv W b a B L M,⟨by rw[AJu];exact b.lt,by simp;exact a,λv l=>?_,λi v l j u D=>?_,λj G=>?_,λj=>?_⟩,(W3.refl g W).setCells (.inl rfl),.inl rfl⟩
  .rcases AX.1 l with h|h
   .exact b.five v h
   .rw[AO.1 h];exact B
  .by_cases hi:i<vs.length
   .rw[BC hi]at l;have O:=b.five v (AE l);have G:j<v.length:=(A3.1 D).1;rw[World.cell?_setCells_out g _ _ _ _ (λ_ _=>.inl (show i*5+j<vs.length*5 by omega))];exact b.cells i v l j u D
   .have J:i=vs.length:=by have:=(A3.1 l).1;simp at this;omega
    subst J;have e:v=news:=by simpa using l.symm
    subst e;exact AJz x D
  .exact World.isSome_setCells g _ _ W _ (b.there j G)
  .rw[World.frozen?_setCells];exact b.free j
 .have a:cap<vs.length+1:=oa;obtain⟨_,_,_,_,K⟩:=A0W;have s:=AJy W b a z B L M;obtain⟨y,A⟩:∃y,grownCap W (vs.length+1) cap 318=y:=⟨_,rfl⟩;have I:vs.length+1<=y:=by rw[<-A];exact grownCap_ge W _ _ _
  rw[A]at s;have m:=MP W.drew (.cells ((vs.flatten++news).toArray++Builtin.zeroCells zLic.cells (y-(vs.length+1))) 318);have C:W.drew.heap.size=W.heap.size:=rfl;rw[C]at m;have w:=A6z b.five;have d:∀v∈vs++[news],v.length=5:=λv l=>by
   rcases AX.1 l with h|h
   .exact b.five v h
   .rw[AO.1 h];exact B
  have H:(vs++[news]).flatten=vs.flatten++news:=oh;refine⟨W.heap.size,y,_,s,⟨by rw[EZ,C];omega,by simp;exact I,d,λi v l j u D=>?_,λj G=>?_,λj=>?_⟩,((W3.refl g W).drew).alloc _,.inr (AD _)⟩
  .have h:=AJw d l D;rw[H]at h;simp only[World.cell?,m];rw[if_neg oh,Array.getElem?_append_left (by have:=(A3.1 h).1;simpa using this)];simpa using h
  .simp only[World.cell?,m];rw[if_neg oh];have:j<((vs.flatten++news).toArray++Builtin.zeroCells zLic.cells (y-(vs.length+1))).size:=by rw[Array.size_append,size_zeroCells,K];simp only[B9,AL,w,B];omega
   rw[AU this];rfl
  .simp only[World.frozen?,m];simp
def XB(base:Nat)(t:Tr)(w':X4)(v:X2):Prop:=∃(ak:Int) (an:X3) (al:X5) (ax:X3) (so:X1 Addr) (sn sc:Nat),v=.agg #[.int .i64 ak,.string an,.bool al,.string ax,.slice so sn sc]/\RH (base<=·) w' t [.int .i64 ak,.string an,.bool al,.string ax,.slice so sn sc]
def P7(s:X3)(b g:Nat)(one:PF):Prop:=
 (∀(args:Array X2) (W:X4),(callFunc g args).run Tryz.prog W=.ok (.enter g args) W)/\
 (∀(w:X4) (r:RS) F,PA w b s r->r.en<=s.size->one r=some F->Calls Tryz.prog g #[.pointer (some ⟨b,0,none⟩)] w (P5 w b s F (XB w.heap.size)))/\
 ∀(r:RS) (t:Tr) (r':RS),one r=some (.ok (t,r'))->r.en<=s.size->r'.en<=s.size
section
variable{ops:Array Oper}{o:Oper}{a:Act}{w:X4}{K:Act->X4->Prop}{Q:Exit->Act->X4->Prop}{E:Prop}
theorem AK1{n:Nat}(C:o.guard=none)(s x:Operand)(hop:o.op=Op.call {callee:=Callee.builtin Builtin.append,args:=#[s,x],argTypes:=#[316,316]})
 (H:a.eval s=.slice (some ⟨g,0,none⟩) n cap)(J:a.eval x=.slice (some ⟨ab,0,none⟩) 1 1)(l:vs.length=n)
 (G:Q9 w g cap vs)(h:vs.length<=1048576)(D:news.length=5)(m:∀u∈news,u.oneCell'=true)(B:∀(j:Nat) (u:X2),news[j]?=some u->w.cell? ⟨ab,j,none⟩=some u)
 (A:∀d b w2,Q9 w2 d b (vs++[news])->W3 g w w2->(d=g\/w.heap.size<=d)->K (a.put o.dst (.slice (some ⟨d,0,none⟩) (n+1) b)) w2):
 if Region.wanted o (yielded ops a.tmps)=true then Oper.wp Tryz.prog o a w K Q else E:=by
 have I:Region.wanted o (yielded ops a.tmps)=true:=by simp[Region.wanted,C]
 rw[if_pos I];have⟨d,b,w2,e,p,y,z⟩:=AK0 w G h D m B;subst l;unfold Oper.wp;simp[execOp,hop,resolve,invoke,builtin,H,J,e,Result.andThen];exact A d b w2 p y z
theorem AK2(A:o.guard=none)(x:Operand)(hop:o.op=Op.call {callee:=Callee.value x,args:=#[],argTypes:=#[]})(D:a.eval x=.func (.func g) #[.pointer (some ⟨b,0,none⟩)] #[])
 (p:∀(args:Array X2) (W:X4),(callFunc g args).run Tryz.prog W=.ok (.enter g args) W)
 (z:Calls Tryz.prog g #[.pointer (some ⟨b,0,none⟩)] w (P5 w b s (.ok (t,r)) (XB w.heap.size)))
 (y:∀ (d:Int) (an:X3) (al:X5) (ax:X3) (so:X1 Addr) (sn sc:Nat) (w3:X4),RH (w.heap.size<=·) w3 t [.int .i64 d,.string an,.bool al,.string ax,.slice so sn sc]->PA w3 b s r->W3 b w w3 ->
  K (a.put o.dst (.agg #[.int .i64 d,.string an,.bool al,.string ax,.slice so sn sc])) w3):
 if Region.wanted o (yielded ops a.tmps)=true then Oper.wp Tryz.prog o a w K Q else E:=by
 have C:Region.wanted o (yielded ops a.tmps)=true:=by simp[Region.wanted,A]
 rw[if_pos C];unfold Oper.wp;have h:(execOp a.eval o).run Tryz.prog w=.ok (.enter g #[.pointer (some ⟨b,0,none⟩)]) w:=by have:=p #[.pointer (some ⟨b,0,none⟩)] w;simp only[execOp,hop,resolve,invoke,D,Deferred.ofValue,Array.map_empty,pure_bind,Array.append_empty];exact this
 rw[h];refine z.mono λe w3 B=>?_;obtain⟨v,rfl,⟨d,an,al,ax,so,sn,sc,rfl,j⟩,l,m⟩:=B;exact y d an al ax so sn sc w3 j l m
theorem A70{d:Nat}{j:Int}(z:o.guard=none)(x:Operand)(hop:o.op=Op.call {callee:=Callee.value x,args:=#[],argTypes:=#[]})(C:a.eval x=.func (.func g) #[.pointer (some ⟨b,0,none⟩)] #[])
 (m:∀(args:Array X2) (W:X4),(callFunc g args).run Tryz.prog W=.ok (.enter g args) W)
 (y:Calls Tryz.prog g #[.pointer (some ⟨b,0,none⟩)] w (P5 w b s (.error (d,j)) (XB w.heap.size)))
 (p:∀(w3:X4),W3 b w w3->Q (.panic (QW d j)) a w3):
 if Region.wanted o (yielded ops a.tmps)=true then Oper.wp Tryz.prog o a w K Q else E:=by
 have B:Region.wanted o (yielded ops a.tmps)=true:=by simp[Region.wanted,z]
 rw[if_pos B];unfold Oper.wp;have h:(execOp a.eval o).run Tryz.prog w=.ok (.enter g #[.pointer (some ⟨b,0,none⟩)]) w:=by have:=m #[.pointer (some ⟨b,0,none⟩)] w;simp only[execOp,hop,resolve,invoke,C,Deferred.ofValue,Array.map_empty,pure_bind,Array.append_empty];exact this
 rw[h];refine y.mono λe w3 A=>?_;obtain⟨rfl,l⟩:=A;exact p w3 l
end
theorem NN{op:Int}(h:FV s en op=.ok r)(b:en<=s.size):r.en<=s.size:=by
 have d:s.data.toList.length=s.size:=oh;have e:=A0T (l:=s.data.toList) (k:=en) oa;have j:=A6q (l:=s.data.toList) (k:=FE s.data.toList en) oa;unfold FV at h;split at h
 .cases h;exact b
 .have a:FE s.data.toList en+1<=s.size:=oa;split at h
  .split at h
   .cases h;exact a
   .split at h
    .cases h;exact a
    .split at h
     .cases h;exact a
     .cases h
  .split at h
   .cases h;show _+_<=_;omega
   .split at h
    .cases h;show _+_<=_;omega
    .cases h
theorem UM{x:X5}(h:J0 s word r=.ok (x,r'))(a:r.en<=s.size):r'.en<=s.size:=by
 unfold J0 at h;split at h
 .cases h;exact a
 .split at h
  .next b=>cases h;exact NN b a
  .cases h
def CO(w:X4)(g:Nat)(a b c d e:X2):Prop:=w.cell? ⟨g,0,none⟩=some a/\w.cell? ⟨g,1,none⟩=some b/\w.cell? ⟨g,2,none⟩=some c/\w.cell? ⟨g,3,none⟩=some d/\w.cell? ⟨g,4,none⟩=some e/\
 w.frozen? ⟨g,0,none⟩=false/\w.frozen? ⟨g,1,none⟩=false/\w.frozen? ⟨g,2,none⟩=false/\w.frozen? ⟨g,3,none⟩=false/\w.frozen? ⟨g,4,none⟩=false
theorem SS{a b:X2}(h:w.heap[g]?=some (.cells #[a,b,c,d,e] el (0,0))):CO w g a b c d e:=by refine⟨?_,?_,?_,?_,?_,?_,?_,?_,?_,?_⟩<;>simp[World.cell?,World.frozen?,h]
theorem QX{a f:X2}(j:b<w.heap.size)(h:W3 b (w.alloc (.cells #[a,c,d,e,f] el)) w1):CO w1 w.heap.size a c d e f:=
 SS ((h.heap w.heap.size oh oa).trans (MapKept.heap_alloc w _).1)
theorem CO.keep{a b:X2}(h:CO w g a b c d e)(k:w'.heap[g]?=w.heap[g]?):CO w' g a b c d e:=by obtain⟨h0,p,s,x,y,f0,f1,j,l,m⟩:=h;exact⟨(GY k _).trans h0,(GY k _).trans p,(GY k _).trans s,(GY k _).trans x,(GY k _).trans y,(P6 k _).trans f0,(P6 k _).trans f1,(P6 k _).trans j,(P6 k _).trans l,(P6 k _).trans m⟩
theorem A0X{R:Nat->Prop}:(∃m,R m)->∃m,R m/\∀k,R k->m<=k:=by
 intro ⟨m,a⟩;have key:∀n m,m<=n->R m->∃m,R m/\∀k,R k->m<=k:=by
  intro n;induction n with
  |zero=>intro m h a;exact⟨m,a,λk _=>oa⟩
  |succ n e=>intro m h a;apply BX;intro b;apply b;refine⟨m,a,λk hk=>?_⟩;apply BX;intro d;exact b (e k oa hk)
 exact key m m (AD _) a
open Classical in
noncomputable def XC(R:Nat->X4->Prop)(w:X4):Nat:=if h:∃m,R m w then Classical.choose (A0X h)else 0
theorem AK3(h:∃m,R m w):R (XC R w) w:=by unfold XC;rw[dif_pos h];exact(Classical.choose_spec (A0X h)).1
theorem AK4(h:R k w):XC R w<=k:=by unfold XC;rw[dif_pos ⟨k,h⟩];exact(Classical.choose_spec (A0X ⟨k,h⟩)).2 k h
structure RowR(w:X4)(b B10:Nat)(s word:X3)(kind:Int)(one:PF)(FL:Except (Nat×Int) (KX Tr×RS))(m:Nat)(wr:X4)(kids:KX Tr)(r:RS)(g cap:Nat)(vs:KX (KX X2)):Prop where
 en:r.en<=s.size
 rd:PA wr b s r
 lf:KI s word one m kids r=some FL
 row:Q9 wr g cap vs
 len:vs.length=kids.length
 few:kids.length+m<=5000
 gb:g≠b
 g10:g≠B10
 g8:w.heap.size<g
 b10:w.heap.size<B10/\B10<wr.heap.size/\B10≠b
 out:CO wr B10 (.int .i64 kind) (.string ⟨#[]⟩) (.bool false) (.string ⟨#[]⟩) (.slice (some ⟨g,0,none⟩) kids.length cap)
 res:CO wr w.heap.size (.int .i64 0) (.string ⟨#[]⟩) (.bool false) (.string ⟨#[]⟩) (.slice none 0 0)
 trs:∀(i:Nat) (t:Tr) (v:KX X2),kids[i]?=some t->vs[i]?=some v->RH (λj=>w.heap.size<j/\j≠B10/\j≠g) wr t v
 frm:W3 b w wr
def bR(w:X4)(b B10:Nat)(s word:X3)(kind:Int)(one:PF)(FL:Except (Nat×Int) (KX Tr×RS))(m:Nat)(wr:X4):Prop:=∃kids r g cap vs,RowR w b B10 s word kind one FL m wr kids r g cap vs
theorem AK5{x:PF}{a:Int}{al:X5}
 (H:b<w.heap.size)(G1:PA w1 b s r)(G2:W3 b (w.alloc (.cells #[.int .i64 0,.string ⟨#[]⟩,.bool false,.string ⟨#[]⟩,.slice none 0 0] 318)) w1)
 (HT:RH ((w.alloc (.cells #[.int .i64 0,.string ⟨#[]⟩,.bool false,.string ⟨#[]⟩,.slice none 0 0] 318)).heap.size<=·) w1 t [.int .i64 a,.string an,.bool al,.string ax,.slice so sn sc])
 (HL:KI s tx x m [t] r=some FL)(z:r.en<=s.size)(J:m<=4500):
 bR w b (w1.heap.size+1+1) s tx kind x FL m (((w1.alloc (.cells #[.int .i64 a,.string an,.bool al,.string ax,.slice so sn sc] 318)).alloc (.cells #[.int .i64 a,.string an,.bool al,.string ax,.slice so sn sc] 318)).alloc
  (.cells #[.int .i64 kind,.string ⟨#[]⟩,.bool false,.string ⟨#[]⟩,.slice (some ⟨w1.heap.size+1,0,none⟩) 1 1] 318)):=by
 have I:=G2.size;rw[EZ]at I
 have e:∀ j,j<w1.heap.size->(((w1.alloc (.cells #[.int .i64 a,.string an,.bool al,.string ax,.slice so sn sc] 318)).alloc (.cells #[.int .i64 a,.string an,.bool al,.string ax,.slice so sn sc] 318)).alloc
  (.cells #[.int .i64 kind,.string ⟨#[]⟩,.bool false,.string ⟨#[]⟩,.slice (some ⟨w1.heap.size+1,0,none⟩) 1 1] 318)).heap[j]?=w1.heap[j]?:=λj l=>by
  rw[IP (by rw[EZ,EZ];omega),IP (by rw[EZ];omega),IP l]
 have A:(((w1.alloc (.cells #[.int .i64 a,.string an,.bool al,.string ax,.slice so sn sc] 318)).alloc (.cells #[.int .i64 a,.string an,.bool al,.string ax,.slice so sn sc] 318)).alloc
  (.cells #[.int .i64 kind,.string ⟨#[]⟩,.bool false,.string ⟨#[]⟩,.slice (some ⟨w1.heap.size+1,0,none⟩) 1 1] 318)).heap[w1.heap.size+1]?=some (.cells #[.int .i64 a,.string an,.bool al,.string ax,.slice so sn sc] 318 (0,0)):=by
  rw[IP (by rw[EZ,EZ];omega)];have:=MP (w1.alloc (.cells #[.int .i64 a,.string an,.bool al,.string ax,.slice so sn sc] 318)) (.cells #[.int .i64 a,.string an,.bool al,.string ax,.slice so sn sc] 318);rw[EZ]at this;exact this
 have y:(((w1.alloc (.cells #[.int .i64 a,.string an,.bool al,.string ax,.slice so sn sc] 318)).alloc (.cells #[.int .i64 a,.string an,.bool al,.string ax,.slice so sn sc] 318)).alloc
  (.cells #[.int .i64 kind,.string ⟨#[]⟩,.bool false,.string ⟨#[]⟩,.slice (some ⟨w1.heap.size+1,0,none⟩) 1 1] 318)).heap[w1.heap.size+1+1]?=some (.cells #[.int .i64 kind,.string ⟨#[]⟩,.bool false,.string ⟨#[]⟩,.slice (some ⟨w1.heap.size+1,0,none⟩) 1 1] 318 (0,0)):=by
  have:=MP ((w1.alloc (.cells #[.int .i64 a,.string an,.bool al,.string ax,.slice so sn sc] 318)).alloc (.cells #[.int .i64 a,.string an,.bool al,.string ax,.slice so sn sc] 318)) (.cells #[.int .i64 kind,.string ⟨#[]⟩,.bool false,.string ⟨#[]⟩,.slice (some ⟨w1.heap.size+1,0,none⟩) 1 1] 318);rw[EZ,EZ]at this;exact this
 have five:=SS A
 refine ⟨[t],r,w1.heap.size+1,1,[[.int .i64 a,.string an,.bool al,.string ax,.slice so sn sc]],z,(e b G1.lt).trans G1,HL,⟨by rw [EZ,EZ,EZ]; omega,AD _,λv d=>?_,λi v d j u h=>?_,λj l=>?_,λj=>?_⟩,rfl,by simp; omega,
  by have:=G1.lt;omega,oa,oa,⟨oa,by rw[EZ,EZ,EZ];omega,by have:=G1.lt;omega⟩,SS y,(QX H G2).keep (e _ oa),λi K v B d=>?_,(((((W3.refl b w).alloc _).trans G2).alloc _).alloc _).alloc _⟩
 .rw[AO.1 d];rfl
 .cases i with
  |zero=>
   simp at d;subst d;rw[Nat.zero_mul,BH];obtain⟨c0,C,D,E,G,_⟩:=five
   match j,h with
   |0,h=>simp at h;subst h;exact c0
   |1,h=>simp at h;subst h;exact C
   |2,h=>simp at h;subst h;exact D
   |3,h=>simp at h;subst h;exact E
   |4,h=>simp at h;subst h;exact G
  |succ i=>simp at d
 .simp only[World.cell?,A];simp;omega
 .simp only[World.frozen?,A];simp
 .cases i with
  |zero=>simp at B d;subst B d;refine HT.keep (by rw[EZ,EZ,EZ];omega) λj l p=>⟨e j p,?_⟩;have l:(w.alloc _).heap.size<=j:=l;rw[EZ]at l;exact⟨oa,oa,oa⟩
  |succ i=>simp at B
theorem CO.set4{a b:X2}(h:CO w g a b c d e):CO (w.setCell ⟨g,4,none⟩ v) g a b c d v:=by obtain⟨h0,p,s,x,y,f0,f1,j,l,m⟩:=h;refine⟨?_,?_,?_,?_,?_,?_,?_,?_,?_,?_⟩<;>simp[go_sem,h0,p,s,x,y,f0,f1,j,l,m]
theorem AK6{wr x:X4}{B10 n m d:Nat}{z:PF}{a:KX Tr}{G:RS}{I:Tr}
 (hb:b<w.heap.size)(H:RowR w b B10 s tx kind z FL (n+1) wr a r g cap vs)(K:W3 b wr w2)(Z:PA w3 b s G)(L:W3 b w2.drew w3)(hT:RH (w2.drew.heap.size<=·) w3 I news)(V:KI s tx z n (a++[I]) G=some FL)
 (Q:G.en<=s.size)(k1:Q9 x m d (vs++[news]))(X:W3 g (w3.alloc (.cells news.toArray 318)) x)(k3:m=g\/(w3.alloc (.cells news.toArray 318)).heap.size<=m):
 bR w b B10 s tx kind z FL n (x.setCell ⟨B10,4,none⟩ (.slice (some ⟨m,0,none⟩) (a.length+1) d)):=by
 obtain⟨h1,h2,h3,h4,h5,h6,h7,h8,h9,B,M,N,O,C⟩:=H;have x0:=C.size;have x1:=K.size;have x2:w2.heap.size<=w3.heap.size:=L.size;have W:=X.size;rw[EZ]at W k3;have p:(x.setCell ⟨B10,4,none⟩ (.slice (some ⟨m,0,none⟩) (a.length+1) d)).heap.size=x.heap.size:=by simp[World.setCell]
 have hg:=h4.lt;have A:∀j,j≠B10->(x.setCell ⟨B10,4,none⟩ (.slice (some ⟨m,0,none⟩) (a.length+1) d)).heap[j]?=x.heap[j]?:=λj h=>heap_setCell (Ne.symm h);have J:∀j,j<w3.heap.size->j≠g->x.heap[j]?=w3.heap[j]?:=λj h U=>(X.heap j (by rw[EZ];omega) U).trans (IP h);have e3:∀j,j<w2.heap.size->j≠b->w3.heap[j]?=w2.heap[j]?:=λj h T=>L.heap j h T;have e2:∀j,j<wr.heap.size->j≠b->w2.heap[j]?=wr.heap[j]?:=K.heap;have l:∀j,j<wr.heap.size->j≠b->j≠g->x.heap[j]?=wr.heap[j]?:=λj a1 Y a3=>(J j oa a3).trans ((e3 j oa Y).trans (e2 j a1 Y));refine⟨a++[I],G,m,d,vs++[news],Q,?_,V,k1.keep (by rw[p];exact AD _) (A m oa),by simp;exact h5,ot,oa,oa,oa,⟨oa,by rw[p];omega,oa⟩,?_,?_,λi t v D E=>?_,?_⟩
 .have:=Z.lt;exact(A b oa).trans ((J b oa oa).trans Z)
 .have:=(M.keep (l B10 B.2.1 B.2.2 oa)).set4 (v:=.slice (some ⟨m,0,none⟩) (a.length+1) d);simpa using this
 .exact N.keep ((A _ oa).trans (l _ oa oa oa))
 .by_cases hi:i<a.length
  .rw[BC hi]at D;rw[BC oa]at E;refine(O i t v D E).keep (by rw[p];omega) λj h y=>?_;exact⟨(A j h.2.1).trans (l j y oa h.2.2),h.1,h.2.1,oa⟩
  .have R:i=a.length:=by have:=(A3.1 D).1;simp at this;omega
   subst R;have e:t=I:=by simpa using D.symm
   have e':v=news:=by rw[<-h5]at E;simpa using E.symm
   subst e e';refine hT.keep (by rw[p];omega) λj h y=>?_;have h:w2.heap.size<=j:=h;exact⟨(A j oa).trans (J j y oa),oa,oa,oa⟩
 .exact(((((C.trans K).drew).trans L).alloc _).under X oa).set (.inr oa)
theorem AK7{wr:X4}{o:Go.Obj}(h:Q9 wr g cap vs)(p:b<w3.heap.size)(j:g≠b)(d:W3 b wr w2)(e:W3 b w2.drew w3):Q9 (w3.alloc o) g cap vs:=by have l:=d.size;have m:w2.heap.size<=w3.heap.size:=e.size;have a:=h.lt;exact h.keep (by rw[EZ];omega) ((IP oa).trans ((e.heap g (show g<w2.heap.size by omega) j).trans (d.heap g a j)))
theorem AK8(w3:X4)(news:KX X2)(j:Nat)(u:X2)(h:news[j]?=some u):(w3.alloc (.cells news.toArray 318)).cell? ⟨w3.heap.size,j,none⟩=some u:=by have:=MP w3 (.cells news.toArray 318);simp only[World.cell?,this];simpa using h
theorem A71(hN:NM)(b g:Nat)(s word:X3)(kind:Int)(A:PF)(U:P7 s b g A)(m:Nat)(hm:m<=4500)(r:RS)(F)(w:X4)(hs:s.size<=4000)(x1:r.en<=s.size)(hr:PA w b s r)
 (C:J9 s kind word A m r=some F):
 Calls Tryz.prog 333 #[.pointer (some ⟨b,0,none⟩),.int .i64 kind,.string word,.func (.func g) #[.pointer (some ⟨b,0,none⟩)] #[]] w (P5 w b s F (XB w.heap.size)):=by
 have a1:=tj;have HN:=Lib.hid hN;have HR:=Lib.hid hr;have HO:=Lib.hid U;have HF:=Lib.hid C;have hb:b<w.heap.size:=hr.lt;clear hN hr U C;cases J:A r with
 |none=>have:=HF.out;unfold J9 at this;rw[J]at this;cases this
 |some F1=>
  have hc:=λ(W:X4) (hW:PA W b s r)=>HO.out.2.1 W r F1 hW x1 J;have HC:=Lib.hid hc;clear hc;have hE:=HO.out.1;cases F1 with
  |error e=>
   obtain⟨ea,ec⟩:=e;have HF2:=Lib.hid (show F=.error (ea,ec) by have:=HF.out;unfold J9 at this;rw[J]at this;exact(A2 this).symm);clear J;go_enter Tryz.func333,Tryz.ntmps333
   go_wp2_with (refine(HC.out _ (HR.out.alloc _)).mono ?_;intro e w1 H;obtain⟨rfl,l⟩:=H;have G2:=Lib.hid l;clear l)
   exact⟨rfl,K6 HF2.out (((W3.refl b w).alloc _).trans G2.out)⟩
  |ok tr=>
   obtain⟨t,en,k,tx,R,tg,op⟩:=tr;by_cases p:k≠2\/tx≠word
   .have HF2:=Lib.hid (show F=.ok (t,⟨en,k,tx,R,tg,op⟩) by have:=HF.out;unfold J9 at this;rw[J]at this;simp only at this;rw[if_pos p]at this;exact(A2 this).symm);clear J;have a0:(k==2)=false/\(k !=2)=true\/k=2/\(tx.toList==word.toList)=false/\(tx.toList !=word.toList)=true:=by
     by_cases hk:k=2
     .have I:tx≠word:=p.resolve_left (λh=>h hk);have e1:(tx.toList==word.toList)=false:=by rw[A0V];simp[I]
      exact .inr ⟨hk,e1,by rw[bne,e1];rfl⟩
     .exact .inl ⟨by simp[hk],by simp[hk]⟩
    clear p;rcases a0 with⟨k1,k2⟩|⟨rfl,k1,k2⟩
    all_goals
     go_enter Tryz.func333,Tryz.ntmps333
     go_wp2_with fail
     refine(HC.out _ (HR.out.alloc _)).mono ?_;intro e w1 H;obtain⟨v,rfl,⟨ak,an,al,ax,so,sn,sc,rfl,I⟩,z,l⟩:=H;have HT:=Lib.hid I;have G1:=Lib.hid z;have G2:=Lib.hid l;obtain⟨q0,q1,q2,q3,q4,q5,q6,qf⟩:=z.cell;simp only at q1 q2 q3 q4 q5 q6;have z7:=z.lt;have x5:w.heap.size<w1.heap.size:=by have:=l.size;simp at this;omega
     have⟨r0,r1,r2,r3,r4,p0,p1,p2,p3,p4⟩:=QX hb l;clear l z I qf
     go_wp2_with fail
     have F8:=M7 (w:=w1) (g:=w.heap.size) (a':=.int .i64 ak) (b':=.string an) (c':=.bool al) (d':=.string ax) (e':=.slice so sn sc)|>.alloc (.cells #[.int .i64 ak,.string an,.bool al,.string ax,.slice so sn sc] 318);have Fb:=(((W3.refl b w).alloc _).trans G2.out).under F8 (AD _);refine bodyPost_ret (v:=.agg #[.int .i64 ak,.string an,.bool al,.string ax,.slice so sn sc]) (by simp[results,Tryz.results333,go_sem,r0,r1,r2,r3,r4,x5]) rfl (OD HF2.out ⟨ak,an,al,ax,so,sn,sc,rfl,HT.out.keep F8.size λj hj h3=>?_⟩ (G1.out.frm F8 oa) Fb);have hj:(w.alloc _).heap.size<=j:=hj;simp at hj;exact⟨F8.heap j h3 oa,by show w.heap.size<=j;omega⟩
   .obtain⟨rfl,rfl⟩:k=2/\tx=word:=by rw[not_or]at p;exact⟨Decidable.not_not.1 p.1,Decidable.not_not.1 p.2⟩
    have HF1:=Lib.hid (show (match KI s tx A m [t] ⟨en,2,tx,R,tg,op⟩ with
     |none=>none
     |some (.error e)=>some (.error e)
     |some (.ok (y,r''))=>some (.ok (.node kind ⟨#[]⟩ false ⟨#[]⟩ y,r'')))=some F by
     have:=HF.out;unfold J9 at this;rw[J]at this;simp only at this;rw[if_neg p]at this;exact this)
    clear p;have k1:(tx.toList==tx.toList)=true:=oh;have k2:(tx.toList !=tx.toList)=false:=oh;go_enter Tryz.func333,Tryz.ntmps333
    go_wp2_with fail
    refine(HC.out _ (HR.out.alloc _)).mono ?_;intro e w1 H;obtain⟨v,rfl,⟨ak,an,al,ax,so,sn,sc,rfl,I⟩,z,l⟩:=H;have HT:=Lib.hid I;have G1:=Lib.hid z;have G2:=Lib.hid l;obtain⟨q0,q1,q2,q3,q4,q5,q6,qf⟩:=z.cell;simp only at q1 q2 q3 q4 q5 q6;have z7:=z.lt;have x5:w.heap.size<w1.heap.size:=by have:=l.size;simp at this;omega
    have⟨r0,r1,r2,r3,r4,p0,p1,p2,p3,p4⟩:=QX hb l;clear l z I qf
    go_wp2_with fail
    obtain⟨FL,h9⟩:∃FL,KI s tx A m [t] ⟨en,2,tx,R,tg,op⟩=some FL:=by
     cases h:KI s tx A m [t] ⟨en,2,tx,R,tg,op⟩with
     |none=>have:=HF1.out;rw[h]at this;cases this
     |some FL=>exact⟨FL,rfl⟩
    have HL:=Lib.hid h9;clear h9;have x4:=HO.out.2.2 r t _ J x1;have HNE:=Lib.hid x4;clear x4 J
    go_loopw [35] (λ_ wr=>∃q,bR w b (w1.heap.size+1+1) s tx kind A FL q wr) (λ_ wr=>XC (bR w b (w1.heap.size+1+1) s tx kind A FL) wr)
    case atStart=>exact⟨m,AK5 hb G1.out G2.out HT.out HL.out HNE hm⟩
    case round=>
     have⟨y,r',g',cap,vs,D⟩:=AK3 hrel;have HRel:=Lib.hid hrel;clear hrel;have HRR:=Lib.hid D;obtain⟨n,hn⟩:∃n,XC (bR w b (w1.heap.size+1+1) s tx kind A FL) wr=n:=⟨_,rfl⟩;have a:=D.lf;rw[hn]at a;have HM:=Lib.hid hn;cases n with
     |zero=>cases a
     |succ n=>
     have B:=A6x HN.out b s tx r' wr hs D.en D.rd;obtain⟨o0,o1,o2,o3,o4,u0,u1,u2,u3,u4⟩:=D.out;have d:=D.b10;clear D hn;unfold KI at a;cases Y:J0 s tx r' with
     |error e=>
      obtain⟨ea,ec⟩:=e;rw[Y]at a B;have HFL:=Lib.hid (A2 a);have HI:=Lib.hid B;clear a B Y
      go_wp2_with fail
      refine HI.out.mono ?_;intro e w2 H;obtain⟨rfl,l⟩:=H;have C:=HF1.out;rw[HL.out,<-HFL.out]at C;exact⟨rfl,K6 (A2 C).symm (HRR.out.frm.trans l)⟩
     |ok x=>
      obtain⟨bb,X,h4,h7,V,h6,h5⟩:=x;cases bb with
      |false=>
       rw[Y]at a B;have HFL:=Lib.hid (A2 a);have HI:=Lib.hid B;clear a B Y
       go_wp2_with fail
       refine HI.out.mono ?_;intro e w2 H;obtain⟨v,rfl,rfl,z,l⟩:=H;have G:=HRR.out.frm;have Q:=HRR.out.row;have hl:=HRR.out.len;have Z:=HRR.out.g8;have z9:=HRR.out.gb;have x3:=HRR.out.g10;have⟨o0,o1,o2,o3,o4,u0,u1,u2,u3,u4⟩:=HRR.out.out.keep (l.heap _ d.2.1 d.2.2);have⟨z0,z1,z2,z3,z4,y0,y1,y2,y3,y4⟩:=HRR.out.res.keep (l.heap _ (by have:=G.size;omega) oa);have y9:w.heap.size<w2.heap.size:=by have:=l.size;omega
       have E:w1.heap.size+1+1<w2.heap.size:=by have:=l.size;omega
       have G3:=Lib.hid z;have G4:=Lib.hid l;have HFr:=Lib.hid G;have HRow:=Lib.hid Q;have HLen:=Lib.hid hl;clear z l G Q hl
       go_wp2_with fail
       have F8:=M7 (w:=w2) (g:=w.heap.size) (a':=.int .i64 kind) (b':=.string ⟨#[]⟩) (c':=.bool false) (d':=.string ⟨#[]⟩) (e':=.slice (some ⟨g',0,none⟩) y.length cap);have Fb:=(HFr.out.trans G4.out).under F8 (AD _);have C:F=.ok (.node kind ⟨#[]⟩ false ⟨#[]⟩ y,⟨X,h4,h7,V,h6,h5⟩):=by have C:=HF1.out;rw[HL.out,<-HFL.out]at C;exact(A2 C).symm
       have M:∀j,w.heap.size<j->j<wr.heap.size->_=wr.heap[j]?:=λj J T=>(F8.heap j (AQ T G4.out.size) oa).trans (G4.out.heap j T oa);refine bodyPost_ret (v:=.agg #[.int .i64 kind,.string ⟨#[]⟩,.bool false,.string ⟨#[]⟩,.slice (some ⟨g',0,none⟩) y.length cap]) (by simp[results,Tryz.results333,go_sem,z0,z1,z2,z3,z4,y9]) rfl (OD C ⟨kind,_,false,_,_,_,_,rfl,?_⟩ (G3.out.frm F8 oa) Fb);have O:=HRow.out.keep (AM G4.out.size F8.size) (M g' Z HRow.out.lt);refine .node kind ⟨#[]⟩ false ⟨#[]⟩ y g' cap vs (Nat.le_of_lt Z) O.lt (by have:=O.le;have:=HLen.out;omega) HLen.out O.cells λi t v I hv=>?_;exact(HRR.out.trs i t v I hv).keep (AM G4.out.size F8.size) λj hj h3=>⟨M j hj.1 h3,Nat.le_of_lt hj.1⟩
      |true=>
       rw[Y]at a B;simp only at a;have L:=UM Y HRR.out.en;simp only at L;have HI:=Lib.hid B;clear B Y;cases T:A ⟨X,h4,h7,V,h6,h5⟩with
       |none=>rw[T]at a;cases a
       |some F2=>
        rw[T]at a;have G:=HRR.out.frm;have Q:=HRR.out.row;have hl:=HRR.out.len;have Z:=HRR.out.g8;have z9:=HRR.out.gb;have x3:=HRR.out.g10;have HFr:=Lib.hid G;have HRow:=Lib.hid Q;have HLen:=Lib.hid hl;clear G Q hl;have x0:=λ(W:X4) (hW:PA W b s ⟨X,h4,h7,V,h6,h5⟩)=>HO.out.2.1 W _ F2 hW L T;have HC2:=Lib.hid x0;clear x0;cases F2 with
        |error e2=>
         obtain⟨ea,ec⟩:=e2;have HFL:=Lib.hid (A2 a);clear a
         go_wp2_with fail
         refine HI.out.mono ?_;intro e w2 H;obtain⟨v,rfl,rfl,z,l⟩:=H;have⟨o0,o1,o2,o3,o4,u0,u1,u2,u3,u4⟩:=HRR.out.out.keep (l.heap _ d.2.1 d.2.2);have E:w1.heap.size+1+1<w2.heap.size:=by have:=l.size;omega
         have G3:=Lib.hid z;have G4:=Lib.hid l;clear z l
         go_wp2_with fail
         refine wp_region_any oe ?_;change wpAny _ _ _ _ _ _ _ (World.drew _);refine wpAny_take (i:=0) (v:=?_) rfl oe oe oe (λ_ _ _ h=>h) (Or.inl ⟨by rfl,?_⟩) ?_;rotate_left;(focus (intro w;go_simp;try with_reducible rfl));refine wpAny_take (i:=2) (v:=?_) rfl oe oe oe (λ_ _ _ h=>h) (Or.inl ⟨by rfl,?_⟩) ?_;rotate_left;(focus (intro w;go_simp;try with_reducible rfl));refine wpAny_ready (rs:=[1,3]) oe oh ?_
         have C:F=.error (ea,ec):=by have C:=HF1.out;rw[HL.out,<-HFL.out]at C;exact(A2 C).symm
         refine AllReady.cons rfl (λK hK=>?_) (AllReady.cons rfl (λK hK=>?_) AllReady.nil)
         .go_simp
          refine hK _ _ ?_;refine wpAny_ready (rs:=[3]) oe oh ?_;refine AllReady.cons rfl (λK hK=>?_) AllReady.nil;refine A70 rfl (.tmp 38) rfl (by simp[Act.eval,Act.put]) hE (HC2.out w2.drew G3.out) ?_;intro w3 g3;exact⟨rfl,K6 C ((HFr.out.trans G4.out.drew).trans g3)⟩
         .refine A70 rfl (.tmp 38) rfl (by simp[Act.eval,Act.put]) hE (HC2.out w2.drew G3.out) ?_;intro w3 g3;exact⟨rfl,K6 C ((HFr.out.trans G4.out.drew).trans g3)⟩
        |ok x2=>
         obtain⟨t2,r3⟩:=x2;simp only at a;have HNE2:=Lib.hid (HO.out.2.2 _ _ _ T L);have HLF:=Lib.hid a;clear a T
         go_wp2_with fail
         refine HI.out.mono ?_;intro e w2 H;obtain⟨v,rfl,rfl,z,l⟩:=H;have⟨o0,o1,o2,o3,o4,u0,u1,u2,u3,u4⟩:=HRR.out.out.keep (l.heap _ d.2.1 d.2.2);have E:w1.heap.size+1+1<w2.heap.size:=by have:=l.size;omega
         have G3:=Lib.hid z;have G4:=Lib.hid l;clear z l
         go_wp2_with fail
         go_region_law (
          first
          | (refine AK2 rfl (.tmp 38) rfl (by simp [Act.eval,Act.put]) hE (HC2.out w2.drew G3.out) ?_
             intro y5 y7 y6 y8 a4 a3 a2 w3 I z l;have⟨o0,o1,o2,o3,o4,u0,u1,u2,u3,u4⟩:=(HRR.out.out.keep (G4.out.heap _ d.2.1 d.2.2)).keep (l.heap _ E d.2.2);have h8:w1.heap.size+1+1<w3.heap.size:=by have:=l.size;have:w2.drew.heap.size=w2.heap.size:=rfl;omega
             have HT2:=Lib.hid I;have G5:=Lib.hid z;have G6:=Lib.hid l;clear I z l)
          | (refine AK1 (vs:=vs) (g:=g') (cap:=cap) (n:=y.length) (ab:=w3.heap.size) (news:=[.int .i64 y5,.string y7,.bool y6,.string y8,.slice a4 a3 a2]) rfl (.tmp 37) (.tmp 40) rfl (by simp [Act.eval,Act.put]) (by simp [Act.eval,Act.put]) HLen.out ?hr ?hbig ?hn ?h1 ?ha ?_
             case hr=>exact AK7 HRow.out (by have:=G6.out.size;have:=G5.out.lt;omega) HRR.out.gb G4.out G6.out
             case hbig=>have:=HRR.out.few;have:=HLen.out;omega
             case hn=>rfl
             case h1=>exact HT2.out.one
             case ha=>exact AK8 _ _
             intro g4 a5 w4 k1 k2 k3;have a7:w1.heap.size+1+1<w4.heap.size:=by have:=k2.size;rw[EZ]at this;omega
             obtain⟨o0,o1,o2,o3,o4,u0,u1,u2,u3,u4⟩:=((HRR.out.out.keep (G4.out.heap _ d.2.1 d.2.2)).keep (G6.out.heap _ E d.2.2)).keep ((k2.heap _ (by rw[EZ];omega) (Ne.symm HRR.out.g10)).trans (IP h8));have K1:=Lib.hid k1;have K2:=Lib.hid k2;have K3:=Lib.hid k3;clear k1 k2 k3))
         all_goals
          go_wp2_with fail
          have N:=AK6 hb (HM.out▸HRR.out) G4.out G5.out G6.out HT2.out HLF.out HNE2.out K1.out K2.out K3.out
          go_roundw
          case rel=>exact⟨n,N⟩
          case measure=>have a6:=AK4 N;rw[HM.out];omega
theorem oP(h:J8 s r=.ok (x,r'))(a:r.en<=s.size):r'.en<=s.size:=by
 unfold J8 at h;split at h
 .cases h
 .split at h
  .next b=>cases h;exact NN b a
  .cases h
theorem AK9{b:PF}(j:∀(r:RS) (t:Tr) (r':RS),b r=some (.ok (t,r'))→r.en≤s.size→r'.en≤s.size):
 ∀(m:Nat) (a:KX Tr) (r:RS) (k:KX Tr) (r':RS),KI s word b m a r=some (.ok (k,r'))->r.en<=s.size->r'.en<=s.size:=by
 intro m;induction m with
 |zero=>intro a r k r' h;cases h
 |succ m l=>
  intro a r k r' h d;unfold KI at h;split at h
  .cases h
  .next e=>cases h;exact UM e d
  grind[UM]
theorem A72{a:PF}(d:∀(r:RS) (t:Tr) (r':RS),a r=some (.ok (t,r'))->r.en<=s.size->r'.en<=s.size)
 (h:J9 s kind word a m r=some (.ok (t,r')))(b:r.en<=s.size):r'.en<=s.size:=by
 grind[J9,AK9]
theorem A73(I:NM)(b:Nat)(s:X3)(x:PF)(a:P7 s b 358 x)(m:Nat)(L:m<=4500)(M:s.size<=4000):P7 s b 334 (J9 s 2 ⟨#[65,78,68]⟩ x m):=by
 refine⟨λ_ _=>rfl,λw r F y p H=>?_,λr t r' h p=>A72 a.2.2 h p⟩;have E:=tj;have d:=A71 I b 358 s ⟨#[65,78,68]⟩ 2 x a m L r F (w.alloc (.cells #[.int .i64 0,.string ⟨#[]⟩,.bool false,.string ⟨#[]⟩,.slice none 0 0] 318)) M p (y.alloc _) H;have HR:=Lib.hid y;have HRow:=Lib.hid d;have K:b<w.heap.size:=y.lt;clear a I y d H;cases F with
 |error e=>
  obtain⟨U,V⟩:=e;go_enter Tryz.func334,Tryz.ntmps334
  go_wp2_with (refine HRow.out.mono ?_;intro e w1 C;obtain⟨rfl,l⟩:=C;have G2:=Lib.hid l;clear l)
  exact⟨rfl,K6 rfl (((W3.refl b w).alloc _).trans G2.out)⟩
 |ok tr=>
  obtain⟨t,r'⟩:=tr;go_enter Tryz.func334,Tryz.ntmps334
  go_wp2_with fail
  refine HRow.out.mono ?_;intro e w1 C;obtain⟨v,rfl,⟨z,an,al,ax,so,sn,sc,rfl,J⟩,G,l⟩:=C;have HT:=Lib.hid J;have G1:=Lib.hid G;have G2:=Lib.hid l;have D:w.heap.size<w1.heap.size:=by have:=l.size;simp at this;omega
  have⟨N,O,Q,R,T,p0,W,X,Y,Z⟩:=QX K l;clear l G J
  go_wp2_with fail
  have F8:=M7 (w:=w1) (g:=w.heap.size) (a':=.int .i64 z) (b':=.string an) (c':=.bool al) (d':=.string ax) (e':=.slice so sn sc);have Fb:=(((W3.refl b w).alloc _).trans G2.out).under F8 (AD _);refine bodyPost_ret (v:=.agg #[.int .i64 z,.string an,.bool al,.string ax,.slice so sn sc]) (by simp[results,Tryz.results334,go_sem,N,O,Q,R,T,D]) rfl (OD rfl ⟨z,an,al,ax,so,sn,sc,rfl,HT.out.keep F8.size λj A B=>?_⟩ (G1.out.frm F8 oa) Fb);have A:(w.alloc _).heap.size<=j:=A;simp at A;exact⟨F8.heap j B oa,oa⟩
theorem A74(I:NM)(b:Nat)(s:X3)(x:PF)(a:P7 s b 334 x)(m:Nat)(L:m<=4500)(M:s.size<=4000):P7 s b 298 (J9 s 3 ⟨#[79,82]⟩ x m):=by
 refine⟨λ_ _=>rfl,λw r F y p H=>?_,λr t r' h p=>A72 a.2.2 h p⟩;have E:=tj;have d:=A71 I b 334 s ⟨#[79,82]⟩ 3 x a m L r F (w.alloc (.cells #[.int .i64 0,.string ⟨#[]⟩,.bool false,.string ⟨#[]⟩,.slice none 0 0] 318)) M p (y.alloc _) H;have HR:=Lib.hid y;have HRow:=Lib.hid d;have K:b<w.heap.size:=y.lt;clear a I y d H;cases F with
 |error e=>
  obtain⟨U,V⟩:=e;go_enter Tryz.func298,Tryz.ntmps298
  go_wp2_with (refine HRow.out.mono ?_;intro e w1 C;obtain⟨rfl,l⟩:=C;have G2:=Lib.hid l;clear l)
  exact⟨rfl,K6 rfl (((W3.refl b w).alloc _).trans G2.out)⟩
 |ok tr=>
  obtain⟨t,r'⟩:=tr;go_enter Tryz.func298,Tryz.ntmps298
  go_wp2_with fail
  refine HRow.out.mono ?_;intro e w1 C;obtain⟨v,rfl,⟨z,an,al,ax,so,sn,sc,rfl,J⟩,G,l⟩:=C;have HT:=Lib.hid J;have G1:=Lib.hid G;have G2:=Lib.hid l;have D:w.heap.size<w1.heap.size:=by have:=l.size;simp at this;omega
  have⟨N,O,Q,R,T,p0,W,X,Y,Z⟩:=QX K l;clear l G J
  go_wp2_with fail
  have F8:=M7 (w:=w1) (g:=w.heap.size) (a':=.int .i64 z) (b':=.string an) (c':=.bool al) (d':=.string ax) (e':=.slice so sn sc);have Fb:=(((W3.refl b w).alloc _).trans G2.out).under F8 (AD _);refine bodyPost_ret (v:=.agg #[.int .i64 z,.string an,.bool al,.string ax,.slice so sn sc]) (by simp[results,Tryz.results298,go_sem,N,O,Q,R,T,D]) rfl (OD rfl ⟨z,an,al,ax,so,sn,sc,rfl,HT.out.keep F8.size λj A B=>?_⟩ (G1.out.frm F8 oa) Fb);have A:(w.alloc _).heap.size<=j:=A;simp at A;exact⟨F8.heap j B oa,oa⟩
theorem AKA{e:PF}(m:∀(r:RS) (t:Tr) (r':RS),e r=some (.ok (t,r'))->r.en<=s.size->r'.en<=s.size)(h:OY s e r=some (.ok (t,r')))(a:r.en<=s.size):r'.en<=s.size:=by
 unfold OY at h;split at h
 .cases h
 .split at h
  .cases h
  .next b=>
   split at h
   .cases h
   .cases h
   .next d=>
    have j:=m _ _ _ d (NN b a);split at h
    .cases h
    .split at h
     .cases h
     .next l=>cases h;exact NN l j
theorem A75{x:X5}(h:L_ s r=.ok (x,r'))(a:r.en<=s.size):r'.en<=s.size:=by
 unfold L_ at h;split at h
 .split at h
  .cases h
  .next b=>cases h;exact NN b a
 .cases h;exact a
theorem A76(h:K_ s r=.ok (x,r'))(a:r.en<=s.size):r'.en<=s.size:=by
 unfold K_ at h;split at h
 .cases h
 .next b=>cases h;exact UM b a
 .next b=>exact oP h (UM b a)
theorem AKB(h:JJ s r=.ok (t,r'))(a:r.en<=s.size):r'.en<=s.size:=by
 unfold JJ at h;split at h
 .cases h
 .next b=>
  split at h
  .cases h
  .next d=>
   split at h
   .cases h
   .next e=>cases h;exact A76 e (A75 d (oP b a))
theorem PA.op{a:Nat}{k:Int}{tg:X5}{op:Int}(h:PA w b s ⟨en,k,tx,a,tg,op⟩)(o2:Int):PA (w.setCell ⟨b,6,none⟩ (.int .i64 o2)) b s ⟨en,k,tx,a,tg,o2⟩:=by unfold PA at *;rw[JL h];rfl
theorem AKC{o2 z:Int}{o o':Go.Obj}(A:b<w.heap.size)(g:W3 b ((w.setCell ⟨b,6,none⟩ (.int .i64 o2)).alloc o) w1)(s:W3 b w1 w2)(a:W3 b ((w2.setCell ⟨b,6,none⟩ (.int .i64 z)).alloc o') w3):W3 b (w.alloc o) w3:=by
 have x:W3 b (w.alloc o) ((w.setCell ⟨b,6,none⟩ (.int .i64 o2)).alloc o):=by
  refine⟨by simp[World.setCell],λj y d=>?_,rfl,rfl,rfl⟩;rw[EZ]at y;by_cases h:j<w.heap.size
  .rw[IP (by simp[World.setCell];exact h),IP h,heap_setCell (Ne.symm d)]
  .have e:j=w.heap.size:=oa;subst e;have m:=MP w o;have l:=MP (w.setCell ⟨b,6,none⟩ (.int .i64 o2)) o;have p:(w.setCell ⟨b,6,none⟩ (.int .i64 o2)).heap.size=w.heap.size:=by simp[World.setCell]
   rw[p]at l;rw[m,l]
 exact((((x.trans g).trans s).set (.inl rfl)).alloc _).trans a
theorem AKD{j:Int}{a f:X2}(l:b<w2.heap.size)(g:W3 b ((w2.setCell ⟨b,6,none⟩ (.int .i64 j)).alloc (.cells #[a,c,d,e,f] 318)) w3):CO w3 w2.heap.size a c d e f:=by
 have h:(w2.setCell ⟨b,6,none⟩ (.int .i64 j)).heap.size=w2.heap.size:=by simp[World.setCell]
 have:=QX (by rw[h];exact l) g;rwa[h]at this
theorem AKE(hN:NM)(b:Nat)(s:X3)(e:PF)(he:P7 s b 298 e)(r:RS)(F)(w:X4)(hs:s.size<=4000)(R:r.en<=s.size)(hr:PA w b s r)(hk:r.k=4)(l:OY s e r=some F):
 Calls Tryz.prog 358 #[.pointer (some ⟨b,0,none⟩)] w (P5 w b s F (XB w.heap.size)):=by
 have y6:=tj;obtain⟨en,k,tx,h9,tg,op⟩:=r;simp only at hk;subst hk;have HR:=Lib.hid hr;have HN:=Lib.hid hN;have HE:=Lib.hid he;have hb:b<w.heap.size:=hr.lt;obtain⟨h0,h1,h2,h3,h4,h5,h6,hf⟩:=hr.cell;simp only at h1 h2 h3 h4 h5 h6;have y9:=hf 6;clear hf hr hN he;obtain⟨A,V⟩:∃A,QD (op+1)=A:=⟨_,rfl⟩;unfold OY at l;simp only[V]at l;unfold QD at V;by_cases B:30<A
 .rw[if_pos B]at l;have l:=A2 l;subst l;have z1:¬A<=30:=oa;go_enter Tryz.func358,Tryz.ntmps358
  go_wp2_with (refine(X9 _ _ _).mono ?_;intro e w' hh;obtain⟨rfl,I⟩:=hh;replace I:=I.symm;subst I)
  exact⟨rfl,K6 rfl (((W3.refl b w).set (.inl rfl)).alloc _)⟩
 .rw[if_neg B]at l;have z2:A<=30:=oa;have T:=HN.out b s ⟨en,4,tx,h9,tg,A⟩ ((w.setCell ⟨b,6,none⟩ (.int .i64 A)).alloc (.cells #[.int .i64 0,.string ⟨#[]⟩,.bool false,.string ⟨#[]⟩,.slice none 0 0] 318)) hs R ((HR.out.op A).alloc _);have HN1:=Lib.hid T;clear T;cases G:FV s en A with
  |error a=>
   have HT:=Lib.hid G;rw[G]at l;have l:=A2 l;subst l;clear G;go_enter Tryz.func358,Tryz.ntmps358
   go_wp2_with (refine HN1.out.mono ?_;intro e w1 h;unfold J1 at h;rw[HT.out]at h;obtain⟨rfl,d⟩:=h;have G2:=Lib.hid d;clear d)
   exact⟨rfl,K6 rfl ((((W3.refl b w).set (.inl rfl)).alloc _).trans G2.out)⟩
  |ok r2=>
   have HT:=Lib.hid G;rw[G]at l;simp only at l;have C:=NN G R;clear G;cases K:e r2 with
   |none=>rw[K]at l;cases l
   |some F2=>
    rw[K]at l;have hc:=λ(W:X4) (hW:PA W b s r2)=>HE.out.2.1 W r2 F2 hW C K;have HC:=Lib.hid hc;clear hc;cases F2 with
    |error e2=>
     obtain⟨ea,ec⟩:=e2;have l:=A2 l;subst l;clear K;go_enter Tryz.func358,Tryz.ntmps358
     go_wp2_with fail
     refine HN1.out.mono ?_;intro e w1 h;unfold J1 at h;rw[HT.out]at h;obtain⟨rfl,m,d⟩:=h;have p:=HC.out w1 m;have HC1:=Lib.hid p;have G2:=Lib.hid d;clear m d p
     go_wp2_with (refine HC1.out.mono ?_;intro e w2 h;obtain⟨rfl,d⟩:=h;have G3:=Lib.hid d;clear d)
     exact⟨rfl,K6 rfl (((((W3.refl b w).set (.inl rfl)).alloc _).trans G2.out).trans G3.out)⟩
    |ok x2=>
     obtain⟨t,E,k3,h8,O,h7,Y⟩:=x2;simp only at l;have D:=HE.out.2.2 _ _ _ K C;simp only at D;clear K;by_cases z:k3=5
     .subst z;rw[if_neg oh]at l;obtain⟨M,X⟩:∃M,QD (Y-1)=M:=⟨_,rfl⟩;simp only[X]at l;unfold QD at X;have U:=λ(w2:X4) (g:PA w2 b s ⟨E,5,h8,O,h7,Y⟩) (o:Go.Obj)=>HN.out b s ⟨E,5,h8,O,h7,M⟩ ((w2.setCell ⟨b,6,none⟩ (.int .i64 M)).alloc o) hs D ((g.op M).alloc _);have HN2:=Lib.hid U;clear U;cases x:FV s E M with
      |error a=>
       rw[x]at l;have l:=A2 l;subst l;have HT2:=Lib.hid x;clear x;go_enter Tryz.func358,Tryz.ntmps358
       go_wp2_with fail
       refine HN1.out.mono ?_;intro e w1 h;unfold J1 at h;rw[HT.out]at h;obtain⟨rfl,m,d⟩:=h;have p:=HC.out w1 m;have HC1:=Lib.hid p;have G2:=Lib.hid d;have Q:=m.lt;clear m d p
       go_wp2_with fail
       refine HC1.out.mono ?_;intro e w2 h;obtain⟨v,rfl,⟨N,an,al,ax,so,sn,sc,rfl,L⟩,m,d⟩:=h;obtain⟨q0,Z,q2,q3,q4,q5,q6,J⟩:=m.cell;simp only at Z q2 q3 q4 q5 q6;have y7:=J 6;have H:=m.lt;have y:=HN2.out w2 m;have HC2:=Lib.hid y;have G3:=Lib.hid d;clear m d L J y
       go_wp2_with (refine(HC2.out _).mono ?_;intro e w3 h;unfold J1 at h;rw[HT2.out]at h;obtain⟨rfl,d⟩:=h;have G4:=Lib.hid d;clear d)
       exact⟨rfl,K6 rfl ((((((((W3.refl b w).set (.inl rfl)).alloc _).trans G2.out).trans G3.out).set (.inl rfl)).alloc _).trans G4.out)⟩
      |ok r4=>
       rw[x]at l;have l:=A2 l;subst l;have HT2:=Lib.hid x;clear x;go_enter Tryz.func358,Tryz.ntmps358
       go_wp2_with fail
       refine HN1.out.mono ?_;intro e w1 h;unfold J1 at h;rw[HT.out]at h;obtain⟨rfl,m,d⟩:=h;have p:=HC.out w1 m;have HC1:=Lib.hid p;have G2:=Lib.hid d;have Q:=m.lt;clear m d p
       go_wp2_with fail
       refine HC1.out.mono ?_;intro e w2 h;obtain⟨v,rfl,⟨N,an,al,ax,so,sn,sc,rfl,L⟩,m,d⟩:=h;obtain⟨q0,Z,q2,q3,q4,q5,q6,J⟩:=m.cell;simp only at Z q2 q3 q4 q5 q6;have y7:=J 6;have H:=m.lt;have y:=HN2.out w2 m;have HC2:=Lib.hid y;have G3:=Lib.hid d;have HT:=Lib.hid L;clear m d L J y
       go_wp2_with fail
       refine(HC2.out _).mono ?_;intro e w3 h;unfold J1 at h;rw[HT2.out]at h;obtain⟨rfl,m,d⟩:=h;have Fa:W3 b (w.alloc (.cells #[.int .i64 0,.string ⟨#[]⟩,.bool false,.string ⟨#[]⟩,.slice none 0 0] 318)) w3:=AKC hb G2.out G3.out d;have⟨r0,r1,r2,r3,y8,p0,p1,p2,p3,p4⟩:=QX hb Fa;have z4:w2.heap.size<w3.heap.size:=by have:=d.size;rw[EZ]at this;simp[World.setCell]at this;omega
       have y5:w.heap.size<w3.heap.size:=by have:=Fa.size;rw[EZ]at this;omega
       have⟨x0,x1,x2,x3,x4,y0,y1,y2,y3,y4⟩:=AKD H d;have G4:=Lib.hid m;have G5:=Lib.hid d;have GA:=Lib.hid Fa;clear m d Fa
       go_wp2_with fail
       have F8:=M7 (w:=w3) (g:=w.heap.size) (a':=.int .i64 N) (b':=.string an) (c':=.bool al) (d':=.string ax) (e':=.slice so sn sc);have Fb:W3 b w _:=((W3.refl b w).alloc _).trans GA.out|>.under F8 (AD _);refine bodyPost_ret (v:=.agg #[.int .i64 N,.string an,.bool al,.string ax,.slice so sn sc]) (by simp[results,Tryz.results358,go_sem,r0,r1,r2,r3,y8,y5]) rfl (OD rfl ⟨N,an,al,ax,so,sn,sc,rfl,HT.out.keep (by have:=F8.size;omega) λj hj x5=>?_⟩ (G4.out.frm F8 oa) Fb);have hj:w1.heap.size<=j:=hj;have z3:w.heap.size<w1.heap.size:=by have:=G2.out.size;rw[EZ]at this;simp[World.setCell]at this;omega
       refine⟨(F8.heap j oa oa).trans ((G5.out.heap j (by rw[EZ];simp[World.setCell];omega) oa).trans ?_),by show w.heap.size<=j;omega⟩;rw[IP (by simp[World.setCell];exact x5),heap_setCell oa]
     .rw[if_pos z]at l;have l:=A2 l;subst l;have k5:(k3==5)=false:=by simp[z]
      have z7:(k3 !=5)=true:=by simp[z]
      clear z;go_enter Tryz.func358,Tryz.ntmps358
      go_wp2_with fail
      refine HN1.out.mono ?_;intro e w1 h;unfold J1 at h;rw[HT.out]at h;obtain⟨rfl,m,d⟩:=h;have p:=HC.out w1 m;have HC1:=Lib.hid p;have G2:=Lib.hid d;have Q:=m.lt;clear m d p
      go_wp2_with fail
      refine HC1.out.mono ?_;intro e w2 h;obtain⟨v,rfl,⟨N,an,al,ax,so,sn,sc,rfl,L⟩,m,d⟩:=h;obtain⟨q0,Z,q2,q3,q4,q5,q6,J⟩:=m.cell;simp only at Z q2 q3 q4 q5 q6;have H:=m.lt;have G3:=Lib.hid d;clear m d L J
      go_wp2_with (refine(X9 _ _ _).mono ?_;intro e w' hh;obtain⟨rfl,I⟩:=hh;replace I:=I.symm;subst I)
      exact⟨rfl,K6 rfl ((((((W3.refl b w).set (.inl rfl)).alloc _).trans G2.out).trans G3.out).alloc _)⟩
theorem AKF(hN:NM)(b:Nat)(s:X3)(r:RS)(w:X4)(hs:s.size<=4000)(h9:r.en<=s.size)(hr:PA w b s r)(hk:r.k≠4):
 Calls Tryz.prog 358 #[.pointer (some ⟨b,0,none⟩)] w (P5 w b s (JJ s r) (XB w.heap.size)):=by
 have y1:=tj;obtain⟨en,k,tx,D,tg,op⟩:=r;have k4:(k==4)=false:=by simpa using hk
 have HR:=Lib.hid hr;have HN:=Lib.hid hN;have hb:b<w.heap.size:=hr.lt;obtain⟨h0,h1,h2,h3,h4,h5,h6,hf⟩:=hr.cell;simp only at h1 h2 h3 h4 h5 h6;have x1:=A6y hN b s ⟨en,k,tx,D,tg,op⟩ (w.alloc (.cells #[.int .i64 0,.string ⟨#[]⟩,.bool false,.string ⟨#[]⟩,.slice none 0 0] 318)) hs h9 (hr.alloc _);have HN1:=Lib.hid x1;clear hf hr hN x1 hk;cases N:J8 s ⟨en,k,tx,D,tg,op⟩with
 |error e=>
  obtain⟨U,V⟩:=e;have HA:=Lib.hid N;have HF:=Lib.hid (show JJ s ⟨en,k,tx,D,tg,op⟩=.error (U,V) by unfold JJ;rw[N]);clear N;go_enter Tryz.func358,Tryz.ntmps358
  go_wp2_with (refine HN1.out.mono ?_;intro e w1 j;rw[HA.out]at j;obtain⟨rfl,d⟩:=j;have G2:=Lib.hid d;clear d)
  exact⟨rfl,K6 HF.out (((W3.refl b w).alloc _).trans G2.out)⟩
 |ok x=>
  obtain⟨n,p,k1,B,z,A,y⟩:=x;have HA:=Lib.hid N;have C:=oP N h9;simp only at C;have hL:JJ s ⟨en,k,tx,D,tg,op⟩=match L_ s ⟨p,k1,B,z,A,y⟩with
   | .error e=>.error e
   | .ok (l,E)=>match K_ s E with
    | .error e=>.error e
    | .ok (x,I)=>.ok (.node 1 n l x [],I):=by unfold JJ;rw[N]<;>rfl
  have HL:=Lib.hid hL;clear N hL;by_cases j:k1=3/\A=true
  focus
   obtain⟨rfl,rfl⟩:=j;have x2:=λ(w1:X4) (g:PA w1 b s ⟨p,3,B,z,true,y⟩) (o:Go.Obj)=>HN.out b s ⟨p,3,B,z,true,y⟩ (w1.alloc o) hs C (g.alloc _);have HN2:=Lib.hid x2;clear x2;have hP:L_ s ⟨p,3,B,z,true,y⟩=match FV s p y with| .error a=>.error (a,6)| .ok E=>.ok (true,E):=by unfold L_;rw[if_pos ⟨rfl,rfl⟩]<;>rfl
   have HP:=Lib.hid hP;clear hP;go_enter Tryz.func358,Tryz.ntmps358
   go_wp2_with fail
   refine HN1.out.mono ?_;intro e w1 j;rw[HA.out]at j;obtain⟨v,rfl,rfl,m,d⟩:=j;obtain⟨q0,q1,q2,q3,q4,q5,q6,qf⟩:=m.cell;simp only at q1 q2 q3 q4 q5 q6;have h7:=m.lt;have h8:=HN2.out w1 m;have HC2:=Lib.hid h8;have G1:=Lib.hid m;have G2:=Lib.hid d;clear m d qf h8
   go_wp2_with fail
   refine(HC2.out _).mono ?_;intro e w2 j;unfold J1 at j;rcases hT:FV s p y with a|E
   .rw[hT]at j;obtain⟨rfl,d⟩:=j;refine⟨rfl,K6 (HL.out.trans (by rw[HP.out,hT])) ?_⟩;exact((((W3.refl b w).alloc _).trans G2.out).alloc _).trans d
   have H:=NN hT C;rw[hT]at j;obtain⟨rfl,m,d⟩:=j;have G3:=Lib.hid m;obtain ⟨l,G4,HL2⟩:∃ l,Hid (W3 b (w1.alloc (.cells #[.int .i64 1,.string n,.bool l,.string ⟨#[]⟩,.slice none 0 0] 318)) w2)/\Hid (JJ s ⟨en,k,tx,D,tg,op⟩=match K_ s E with
    | .error e=>.error e
    | .ok (x,I)=>.ok (.node 1 n l x [],I)):=⟨true,Lib.hid d,Lib.hid (HL.out.trans (by rw[HP.out,hT]))⟩
   clear m d hT q0 q1 q2 q3 q4 q5 q6
   go_wp2_with fail
  rotate_left
  focus
   have hP:L_ s ⟨p,k1,B,z,A,y⟩=.ok (false,⟨p,k1,B,z,A,y⟩):=by unfold L_;rw[if_neg j]
   have HL2:=Lib.hid (show JJ s ⟨en,k,tx,D,tg,op⟩=match K_ s ⟨p,k1,B,z,A,y⟩ with
    | .error e=>.error e
    | .ok (x,I)=>.ok (.node 1 n false x [],I)from HL.out.trans (by rw[hP]))
   have y0:(k1==3)=false\/k1=3/\A=false:=by
    by_cases h:k1=3
    .refine .inr ⟨h,?_⟩;cases A with
     |false=>rfl
     |true=>exact absurd ⟨h,rfl⟩ j
    .exact .inl (by simpa using h)
   clear hP j HL;obtain⟨E,J⟩:∃E:RS,⟨p,k1,B,z,A,y⟩=E:=⟨_,rfl⟩;rw[J]at HL2;rcases y0 with y4|⟨rfl,rfl⟩
   all_goals
    go_enter Tryz.func358,Tryz.ntmps358
    go_wp2_with fail
    refine HN1.out.mono ?_;intro e w1 j;rw[HA.out]at j;obtain⟨v,rfl,rfl,m,d⟩:=j;obtain⟨q0,q1,q2,q3,q4,q5,q6,qf⟩:=m.cell;simp only at q1 q2 q3 q4 q5 q6;have h7:=m.lt;have G1:=Lib.hid m;have G2:=Lib.hid d;clear m d qf
    go_wp2_with fail
    obtain⟨w2,K⟩:∃w2:X4,w1.alloc (.cells #[.int .i64 1,.string n,.bool false,.string ⟨#[]⟩,.slice none 0 0] 318)=w2:=⟨_,rfl⟩;rw[K];obtain⟨l,G4⟩:∃l,l=false/\Hid (W3 b (w1.alloc (.cells #[.int .i64 1,.string n,.bool l,.string ⟨#[]⟩,.slice none 0 0] 318)) w2):=⟨false,rfl,Lib.hid (K▸W3.refl b _)⟩;obtain⟨hl,G4⟩:=G4;rw[<-hl]at HL2;have H:E.en<=s.size:=by rw[<-J];exact C
    have G3:=Lib.hid (show PA w2 b s E by rw[<-J,<-K];exact G1.out.alloc _);clear J hl K q0 q1 q2 q3 q4 q5 q6 G1
  all_goals
   have W:CO w2 w1.heap.size (.int .i64 1) (.string n) (.bool l) (.string ⟨#[]⟩) (.slice none 0 0):=QX h7 G4.out;have X:CO w2 w.heap.size (.int .i64 0) (.string ⟨#[]⟩) (.bool false) (.string ⟨#[]⟩) (.slice none 0 0):=(QX hb G2.out).keep ((G4.out.heap _ (by have:=G2.out.size;rw[EZ]at *;omega) oa).trans (IP (by have:=G2.out.size;rw[EZ]at *;omega)));have HF7:=Lib.hid W;have HF8:=Lib.hid X;have L:w1.heap.size<w2.heap.size:=by have:=G4.out.size;rw[EZ]at this;omega
   have x3:w.heap.size<w1.heap.size:=by have:=G2.out.size;rw[EZ]at this;omega
   have Fb2:=Lib.hid (((((W3.refl b w).alloc _).trans G2.out).alloc _).trans G4.out);have Y:=A6x HN.out b s ⟨#[87,73,84,72]⟩ E w2 hs H G3.out;have HI2:=Lib.hid Y;clear W X Y;cases G:J0 s ⟨#[87,73,84,72]⟩ E with
   |error e=>obtain⟨U,V⟩:=e;have HI:=Lib.hid G;have HF:=Lib.hid (show JJ s _=.error (U,V)from HL2.out.trans (by unfold K_;rw[G]));clear G;refine HI2.out.mono ?_;intro e w3 j;rw[HI.out]at j;obtain⟨rfl,d⟩:=j;exact⟨rfl,K6 HF.out (Fb2.out.trans d)⟩
   |ok x=>
    obtain⟨bb,I⟩:=x;have HI:=Lib.hid G;have x0:=UM G H;cases bb with
    |false=>
     have HF:=Lib.hid (show JJ s _=.ok (.node 1 n l ⟨#[]⟩ [],I)from HL2.out.trans (by unfold K_;rw[G]));clear G;refine HI2.out.mono ?_;intro e w3 j;rw[HI.out]at j;obtain⟨v,rfl,rfl,m,d⟩:=j;have⟨c0,c1,c2,c3,c4,d0,d1,d2,d3,d4⟩:=HF7.out.keep (d.heap _ L oa);have⟨r0,r1,O,Q,r4,p0,p1,p2,p3,p4⟩:=HF8.out.keep (d.heap _ oa oa);have M:w1.heap.size<w3.heap.size:=by have:=d.size;omega
     have x4:w.heap.size<w3.heap.size:=by have:=d.size;omega
     have G5:=Lib.hid m;have G6:=Lib.hid d;clear m d
     go_wp2_with fail
     have F8:=M7 (w:=w3) (g:=w.heap.size) (a':=.int .i64 1) (b':=.string n) (c':=.bool l) (d':=.string ⟨#[]⟩) (e':=.slice none 0 0);refine bodyPost_ret (v:=.agg #[.int .i64 1,.string n,.bool l,.string ⟨#[]⟩,.slice none 0 0]) (by simp[results,Tryz.results358,go_sem,r0,r1,O,Q,r4,x4]) rfl (OD HF.out ⟨1,n,l,⟨#[]⟩,none,0,0,rfl,.leaf _ _ _ _⟩ (G5.out.frm F8 oa) ((Fb2.out.trans G6.out).under F8 (AD _)))
    |true=>
     have Z:=λ(w3:X4) (g:PA w3 b s I)=>A6y HN.out b s I w3 hs x0 g;have HM2:=Lib.hid Z;clear Z;cases T:J8 s I with
     |error e=>
      obtain⟨U,V⟩:=e;have HM:=Lib.hid T;have HF:=Lib.hid (show JJ s _=.error (U,V)from HL2.out.trans (by unfold K_;rw[G];simp only;rw[T]));clear G T;refine HI2.out.mono ?_;intro e w3 j;rw[HI.out]at j;obtain⟨v,rfl,rfl,m,d⟩:=j;have hm:=HM2.out w3 m;have HM3:=Lib.hid hm;have G6:=Lib.hid d;clear m d hm
      go_wp2_with fail
      refine HM3.out.mono ?_;intro e R j;rw[HM.out]at j;obtain⟨rfl,d⟩:=j;exact⟨rfl,K6 HF.out ((Fb2.out.trans G6.out).trans d)⟩
     |ok x=>
      obtain⟨x,r4⟩:=x;have HM:=Lib.hid T;have HF:=Lib.hid (show JJ s _=.ok (.node 1 n l x [],r4)from HL2.out.trans (by unfold K_;rw[G];simp only;rw[T]));clear G T;refine HI2.out.mono ?_;intro e w3 j;rw[HI.out]at j;obtain⟨v,rfl,rfl,m,d⟩:=j;have hm:=HM2.out w3 m;have HM3:=Lib.hid hm;have G6:=Lib.hid d;have M:w1.heap.size<w3.heap.size:=by have:=d.size;omega
      clear m d hm
      go_wp2_with fail
      refine HM3.out.mono ?_;intro e R j;rw[HM.out]at j;obtain⟨v,rfl,rfl,m,d⟩:=j;have⟨c0,c1,c2,c3,c4,d0,d1,d2,d3,d4⟩:=(HF7.out.keep (G6.out.heap _ L oa)).keep (d.heap _ M oa);have⟨r0,r1,O,Q,y2,p0,p1,p2,p3,p4⟩:=(HF8.out.keep (G6.out.heap _ oa oa)).keep (d.heap _ oa oa);have y3:w1.heap.size<R.heap.size:=by have:=d.size;omega
      have x5:w.heap.size<R.heap.size:=by have:=d.size;omega
      have G7:=Lib.hid m;have G8:=Lib.hid d;have y5:w.heap.size≠w1.heap.size:=oa;clear m d
      go_wp2_with fail
      have F7:W3 w1.heap.size R (R.setCell ⟨w1.heap.size,3,none⟩ (.string x)):=(W3.refl w1.heap.size R).set (c:=w1.heap.size) (i:=3) (v:=.string x) (.inl rfl);have F8:=M7 (w:=(R.setCell ⟨w1.heap.size,3,none⟩ (.string x))) (g:=w.heap.size) (a':=.int .i64 1) (b':=.string n) (c':=.bool l) (d':=.string x) (e':=.slice none 0 0);refine bodyPost_ret (v:=.agg #[.int .i64 1,.string n,.bool l,.string x,.slice none 0 0]) (by simp[results,Tryz.results358,go_sem,r0,r1,O,Q,y2,x5]) rfl (OD HF.out ⟨1,n,l,x,none,0,0,rfl,.leaf _ _ _ _⟩ ((G7.out.frm F7 oa).frm F8 oa) ((((Fb2.out.trans G6.out).trans G8.out).under F7 (Nat.le_of_lt x3)).under F8 (AD _)))
theorem AKG(j:NM)(b:Nat)(s:X3)(m:Nat)(x:m<=4500)(l:s.size<=4000):∀d,P7 s b 358 (N9 s m d):=by
 intro d;induction d with
 |zero=>exact⟨λ_ _=>rfl,λ_ _ _ _ _ h=>(om),λ_ _ _ h=>(om)⟩
 |succ d z=>
  have p:=A74 j b s _ (A73 j b s _ z m x l) m x l;refine⟨λ_ _=>rfl,λw r F y a e=>?_,λr t r' h a=>?_⟩
  .unfold N9 at e;by_cases hk:r.k=4
   .rw[if_pos hk]at e;exact AKE j b s _ p r F w l a y hk e
   .rw[if_neg hk]at e;cases A2 e;exact AKF j b s r w l a y hk
  .unfold N9 at h;by_cases hk:r.k=4
   .rw[if_pos hk]at h;exact AKA p.2.2 h a
   .rw[if_neg hk]at h;exact AKB (A2 h) a
theorem AKH(h:NM)(b:Nat)(s:X3)(m:Nat)(a:m<=4500)(e:s.size<=4000)(d:Nat):P7 s b 298 (QE s m d):=
 A74 h b s _ (A73 h b s _ (AKG h b s m a e d) m a e) m a e
def Two(w:X4)(g:Nat)(a b:X2):Prop:=w.cell? ⟨g,0,none⟩=some a/\w.cell? ⟨g,1,none⟩=some b/\w.frozen? ⟨g,0,none⟩=false/\w.frozen? ⟨g,1,none⟩=false
def A77(c:Frame)(v:X2):Frame:={c with mode:=.panicking [{v:=v,recovered:=true}]}
theorem AKI(c:Frame)(cs:KX Frame)(v:X2)(h:c.mode=.panicking [{v:=v,recovered:=false}]):recoverD (c::cs)=some (v,A77 c v::cs):=by simp[recoverD,h,A77]
theorem AKJ(W:X4):W.drew.heap=W.heap:=rfl
theorem AKK(W:X4):W.drew.os=W.os:=rfl
theorem AKL(W:X4):W.drew.output=W.output:=rfl
theorem AKM(W:X4)(o:Go.Obj):(W.alloc o).os=W.os:=rfl
theorem AKN(W:X4)(o:Go.Obj):(W.alloc o).output=W.output:=rfl
theorem AKO(W:X4)(a:Addr)(v:X2):(W.setCell a v).os=W.os:=rfl
theorem AKP(W:X4)(a:Addr)(v:X2):(W.setCell a v).output=W.output:=rfl
section
variable{P:Program}{Q:Exit->Act->KX Frame->X4->Prop}{ops:Array Oper}{i:Nat}{rest:KX Nat}{o:Oper}{a:Act}{cs cs':KX Frame}{w w':X4}{v:X2}
theorem NO(b:ops[i]?=some o)(e:Region.wanted o (yielded ops a.tmps)=true)(d:(execOp a.eval o).run P w=.ok (.value v) w')(h:wpOpsS P ops Q rest (a.put o.dst v) cs w'):wpOpsS P ops Q (i::rest) a cs w:=by simp only[wpOpsS,b,e,if_true,d];exact h
theorem A78(b:ops[i]?=some o)(e:Region.wanted o (yielded ops a.tmps)=true)(d:(execOp a.eval o).run P w=.ok .skip w')(h:wpOpsS P ops Q rest (a.put o.dst undef) cs w'):wpOpsS P ops Q (i::rest) a cs w:=by simp only[wpOpsS,b,e,if_true,d];exact h
theorem AKQ(d:ops[i]?=some o)(j:Region.wanted o (yielded ops a.tmps)=true)(e:(execOp a.eval o).run P w=.ok .recover w)(b:recoverD cs=some (v,cs'))(h:wpOpsS P ops Q rest (a.put o.dst v) cs' w):wpOpsS P ops Q (i::rest) a cs w:=by simp_all[wpOpsS,if_true]
theorem AKR(d:ops[i]?=some o)(j:Region.wanted o (yielded ops a.tmps)=true)(e:(execOp a.eval o).run P w=.ok .recover w)(b:recoverD cs=none)(h:wpOpsS P ops Q rest (a.put o.dst .nilIface) cs w):wpOpsS P ops Q (i::rest) a cs w:=by simp_all[wpOpsS,if_true]
end
end Go.Ev.Pv
