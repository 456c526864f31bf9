/-
  The reader of licence expressions: its walk, and what it answers.
-/
import Derived.Deep.MidRow
import Derived.Test.YtngpbgokgpnamaaGreatDoorG
set_option linter.all false
set_option maxRecDepth 1000000
set_option maxHeartbeats 16000000
namespace Go.Ev.Pv
open Go.Proofs Go.RowKit
theorem tf:Tryz.prog.follows Departure.mixedOrders=true:=oe
def nY(a c:Int):Value:=.iface 456 (.agg #[.int .i64 a,.int .i64 c])
def QG(a c:Int):List PanicEntry:=[{v:=nY a c,recovered:=false}]
theorem WU(a c:Int)(w:World):Calls Tryz.prog 337 #[.int .i64 a,.int .i64 c] w λe b=>e=.panicked (QG a c)/\b=w:=by have m:=tf;go_enter Tryz.func337,Tryz.ntmps337;go_wp2;simp only[Instr.panic,Sem.run,Result.andThen,Oper.upon];exact⟨rfl,rfl,rfl⟩
theorem bN(c:UInt8)(w:World):Calls Tryz.prog 363 #[.int .u8 (c.toNat:Int)] w λe d=>e=.returned (.bool (K7 c))/\w=d:=by
 have m:=tf;have a:∀b:Bool,K7 c=b->Ending.returned (.bool b)=.returned (.bool (K7 c)):=λb h=>by rw[h]
 go_enter Tryz.func363,Tryz.ntmps363;go_wp2
 all_goals
  go_ret;refine⟨a _ ?_,rfl⟩;unfold K7;rw[Bool.eq_iff_iff];simp;try omega
theorem zS(s:ByteArray)(w:World):Calls Tryz.prog 364 #[.string s] w λe d=>e=.returned (.bool (KN s))/\w=d:=by
 have m:=tf;have a:∀b:Bool,KN s=b->Ending.returned (.bool b)=.returned (.bool (KN s)):=λb h=>by rw[h]
 go_enter Tryz.func364,Tryz.ntmps364;go_wp2
 all_goals
  go_ret;refine⟨a _ ?_,rfl⟩;unfold KN wordL;simp_all
theorem AIz{s:ByteArray}(h:0<s.size):s.data.toList.headD 0=s[0]:=by
 have a:0<s.data.toList.length:=by simpa using h
 rw[List.headD_eq_head?_getD,List.head?_eq_getElem?,A1 a];simp;rfl
theorem AJ0{s:ByteArray}(h:s.size=0):s.toList=[]:=by simp_all
theorem AJ1{s:ByteArray}(h:0<s.size):(s.toList== [])=false:=by
 rw[ByteArray.toList_eq];cases b:s.data.toList with
 |nil=>have d:s.data.toList.length=s.size:=oh;grind
 |cons a l=>rfl
theorem zT(s:ByteArray)(w:World)(J:s.size<=4000):Calls Tryz.prog 366 #[.string s] w λe d=>e=.returned (.bool (H8 s))/\w=d:=by
 have E:=tf;have p:∀b:Bool,H8 s=b->Ending.returned (.bool b)=.returned (.bool (H8 s)):=λb h=>by rw[h]
 by_cases h0:s.size=0
 .have e0:s.toList=[]:=AJ0 h0;have I:(s.toList== [])=true:=by rw[e0];rfl
  have HE:Hid (H8 s=false):=Lib.hid (by unfold H8;simp[h0]);clear e0 h0;go_enter Tryz.func366,Tryz.ntmps366;go_wp2
  all_goals
   go_ret;exact⟨p _ HE.out,rfl⟩
 have A:0<s.size:=oa;have I:(s.toList== [])=false:=AJ1 A;clear h0;by_cases B:s.size<=60
 rotate_left
 .have HE:Hid (H8 s=false):=Lib.hid (by unfold H8;simp[B]);have B:60<s.size:=oa;go_enter Tryz.func366,Tryz.ntmps366;go_wp2
  all_goals
   go_ret;exact⟨p _ HE.out,rfl⟩
 have z:=AIz A;cases l:(s.data.toList.headD 0==46:Bool)with
 |true=>
  have HE:Hid (H8 s=false):=Lib.hid (by grind[H8]);rw[z]at l;have G:((s[0].toNat:Int)==46)=true:=by rw[CI.1 l];rfl
  clear l z;go_enter Tryz.func366,Tryz.ntmps366;go_wp2
  all_goals
   go_ret;exact⟨p _ HE.out,rfl⟩
 |false=>
 cases y:(s.data.toList.headD 0==45:Bool)with
 |true=>
  have HE:Hid (H8 s=false):=Lib.hid (by grind[H8]);rw[z]at l y;have G:((s[0].toNat:Int)==46)=false:=by rw[CI.1 y];rfl
  have H:((s[0].toNat:Int)==45)=true:=by rw[CI.1 y];rfl
  clear l y z;go_enter Tryz.func366,Tryz.ntmps366;go_wp2
  all_goals
   go_ret;exact⟨p _ HE.out,rfl⟩
 |false=>
 have HF:Hid (H8 s=(!(KN s)&&s.data.toList.all K7)):=Lib.hid (by grind[H8,decide_eq_true]);rw[z]at l y;have G:((s[0].toNat:Int)==46)=false:=by
  cases h:((s[0].toNat:Int)==46)with
  |false=>rfl
  |true=>have:s[0]=46:=UInt8.toNat_inj.1 oc;grind
 have H:((s[0].toNat:Int)==45)=false:=by
  cases h:((s[0].toNat:Int)==45)with
  |false=>rfl
  |true=>have:s[0]=45:=UInt8.toNat_inj.1 oc;grind
 clear l y z;cases D:KN s with
 |true=>
  have HE:Hid (H8 s=false):=Lib.hid (by rw[HF.out,D];rfl);have j:∀W,Calls Tryz.prog 364 #[.string s] W λe d=>e=.returned (.bool true)/\W=d:=λW=>by grind[zS]
  clear D;have HC:=Lib.hid j;clear j;go_enter Tryz.func366,Tryz.ntmps366
  go_wp2_with (refine(HC.out _).mono ?_;rintro e d ⟨rfl,rfl⟩)
  all_goals
   go_ret;exact⟨p _ HE.out,rfl⟩
 |false=>
  have j:∀W,Calls Tryz.prog 364 #[.string s] W λe d=>e=.returned (.bool false)/\W=d:=λW=>by grind[zS]
  have HA:Hid (H8 s=s.data.toList.all K7):=Lib.hid (by rw[HF.out,D];rfl);clear D;have HC:=Lib.hid j;clear j HF;go_enter Tryz.func366,Tryz.ntmps366
  go_wp2_with (refine(HC.out _).mono ?_;rintro e d ⟨rfl,rfl⟩)
  go_loop [27] (λt=>∃k:Nat,k<=s.size/\(s.data.toList.take k).all K7=true/\t=.int .i64 k) (λt=>s.size-(RowKit.intOf t).toNat)
  case atStart=>grind
  case round=>
   obtain⟨k,hk,C,rfl⟩:=hrel;have HK:=Lib.hid C;clear C;by_cases m:k<s.size
   .cases x:K7 s[k]with
    |true=>
     have j:∀W,Calls Tryz.prog 363 #[.int .u8 (s[k].toNat:Int)] W λe d=>e=.returned (.bool true)/\W=d:=λW=>by grind[bN]
     have a:(s.data.toList.take (k+1)).all K7=true:=by
      rw[List.take_succ_eq_append_getElem (by simpa using m),List.all_append,HK.out];have e:s.data.toList[k]'(by simpa using m)=s[k]:=by simp;rfl
      rw[e];simp[x]
     have HN:=Lib.hid a;have HC2:=Lib.hid j;clear j a x
     go_wp2_with (refine(HC2.out _).mono ?_;rintro e d ⟨rfl,rfl⟩)
     go_round
     case rel=>exact⟨k+1,oa,HN.out,by go_num⟩
     case measure=>simp[RowKit.intOf];omega
    |false=>
     have j:∀W,Calls Tryz.prog 363 #[.int .u8 (s[k].toNat:Int)] W λe d=>e=.returned (.bool false)/\W=d:=λW=>by grind[bN]
     have a:H8 s=false:=by rw[HA.out];rw[List.all_eq_false];exact⟨s[k],AL (l:=s.data.toList) (n:=k) (by simpa using m),oc⟩
     have HN:=Lib.hid a;have HC2:=Lib.hid j;clear j a x
     go_wp2_with (refine(HC2.out _).mono ?_;rintro e d ⟨rfl,rfl⟩)
     go_ret;exact⟨p _ HN.out,rfl⟩
   .obtain rfl:k=s.size:=oa;have a:H8 s=true:=by rw[HA.out];have:=HK.out;rw[CF oh]at this;exact this
    have HN:=Lib.hid a;clear a;go_wp2;go_ret;exact⟨p _ HN.out,rfl⟩
def A62(s:ByteArray)(r:RS):Array Value:=#[.string s,.int .i64 r.en,.int .i64 r.k,.string r.tx,.int .i64 r.at_,.bool r.tg,.int .i64 r.op]
def RdAt(w:World)(b:Nat)(s:ByteArray)(r:RS):Prop:=w.heap[b]?=some (.cells (A62 s r) 499 (0,0))
structure Frm(b:Nat)(w w':World):Prop where
 size:w.heap.size<=w'.heap.size
 heap:∀j,j<w.heap.size->j≠b->w'.heap[j]?=w.heap[j]?
 os:w'.os=w.os
 tape:w'.tape=w.tape
 out:w'.output=w.output
theorem Frm.refl(b:Nat)(w:World):Frm b w w:=⟨AD _,λ_ _ _=>rfl,rfl,rfl,rfl⟩
theorem Frm.trans{b:Nat}{w w' a:World}(h:Frm b w w')(k:Frm b w' a):Frm b w a:=
 ⟨AM h.size k.size,λj e d=>(k.heap j (AO e h.size) d).trans (h.heap j e d),k.os.trans h.os,k.tape.trans h.tape,k.out.trans h.out⟩
theorem heap_setCell{w:World}{b i:Nat}{v:Value}{j:Nat}(h:b≠j):(w.setCell ⟨b,i,none⟩ v).heap[j]?=w.heap[j]?:=by simp only[World.setCell,Array.getElem?_modify,if_neg h]
theorem JE{w:World}{b i:Nat}{v:Value}{c:Array Value}{el:TypeId}{fz:Nat×Nat}(h:w.heap[b]?=some (.cells c el fz)):(w.setCell ⟨b,i,none⟩ v).heap[b]?=some (.cells (c.setIfInBounds i v) el fz):=by simp only[World.setCell,Array.getElem?_modify,if_true,h];rfl
theorem IG{w:World}{o:Go.Obj}{j:Nat}(h:j<w.heap.size):(w.alloc o).heap[j]?=w.heap[j]?:=(MapKept.heap_alloc w o).2 j h
theorem Frm.set{b:Nat}{w w':World}(h:Frm b w w'){c i:Nat}{v:Value}(a:c=b\/w.heap.size<=c):Frm b w (w'.setCell ⟨c,i,none⟩ v):=by refine⟨by simpa[World.setCell]using h.size,λj e d=>?_,h.os,h.tape,h.out⟩;rw[heap_setCell (by rcases a with rfl|a<;>omega)];exact h.heap j e d
theorem Frm.alloc{b:Nat}{w w':World}(h:Frm b w w')(o:Go.Obj):Frm b w (w'.alloc o):=by refine⟨by have:=h.size;simp;omega,λj a d=>?_,h.os,h.tape,h.out⟩;rw[IG (AO a h.size)];exact h.heap j a d
theorem Frm.drew{b:Nat}{w w':World}(h:Frm b w w'):Frm b w w'.drew:=⟨h.size,h.heap,h.os,h.tape,h.out⟩
theorem Frm.below{b:Nat}{w w' a:World}(h:Frm b w w')(k:Below w'.heap.size w' a):Frm b w a:=h.trans ⟨k.size,λj d _=>k.block j d,k.os,k.tape,k.output⟩
theorem AJ2{W w1:World}(a:Below W.heap.size W w1):(∀b o,b<W.heap.size->w1.cell? ⟨b,o,none⟩=W.cell? ⟨b,o,none⟩)/\(∀b o,b<W.heap.size->w1.frozen? ⟨b,o,none⟩=W.frozen? ⟨b,o,none⟩):=
 ⟨λb o h=>a.cell (p:=⟨b,o,none⟩) h,λb o h=>a.frozen (p:=⟨b,o,none⟩) h⟩
theorem RdAt.lt{w:World}{b:Nat}{s:ByteArray}{r:RS}(h:RdAt w b s r):b<w.heap.size:=(B1.1 h).1
theorem RdAt.alloc{w:World}{b:Nat}{s:ByteArray}{r:RS}(h:RdAt w b s r)(o:Go.Obj):RdAt (w.alloc o) b s r:=(IG h.lt).trans h
theorem RdAt.frm{w w':World}{b c:Nat}{s:ByteArray}{r:RS}(h:RdAt w b s r)(f:Frm c w w')(a:c≠b):RdAt w' b s r:=(f.heap b h.lt (λe=>a e.symm)).trans h
theorem RdAt.cell{w:World}{b:Nat}{s:ByteArray}{r:RS}(h:RdAt w b s r):
 w.cell? ⟨b,0,none⟩=some (.string s)/\w.cell? ⟨b,1,none⟩=some (.int .i64 r.en)/\w.cell? ⟨b,2,none⟩=some (.int .i64 r.k)/\w.cell? ⟨b,3,none⟩=some (.string r.tx)/\w.cell? ⟨b,4,none⟩=some (.int .i64 r.at_)/\
  w.cell? ⟨b,5,none⟩=some (.bool r.tg)/\w.cell? ⟨b,6,none⟩=some (.int .i64 r.op)/\∀i,w.frozen? ⟨b,i,none⟩=false:=by
 simp_all[RdAt,World.cell?,World.frozen?,A62]
theorem A63{l:List UInt8}{k:Nat}(h:k<l.length)(a:N1 l[k]=true):F4 l (k+1)=F4 l k:=by grind[F4,List.drop_eq_getElem_cons,List.takeWhile_cons_of_pos]
theorem A64{l:List UInt8}{k:Nat}(h:k<l.length)(a:K7 l[k]=true):JR l k=JR l (k+1)+1:=by grind[JR,List.drop_eq_getElem_cons,List.takeWhile_cons_of_pos]
theorem zU{l:List UInt8}{k:Nat}(h:k<=l.length):F4 l k<=l.length:=by grind[F4,List.takeWhile_prefix,N1]
theorem nZ{l:List UInt8}{k:Nat}:k<=F4 l k:=Nat.le_add_right _ _
theorem A65{l:List UInt8}{k:Nat}(h:k<=l.length):k+JR l k<=l.length:=by grind[JR,List.takeWhile_prefix,K7]
theorem A66{p:UInt8->Bool}{l:List UInt8}{i:Nat}(h:i<(l.takeWhile p).length)(b:i<l.length):p l[i]=true:=by have a:=List.all_takeWhile (p:=p) (l:=l);have:=BT.1 a _ (AL h);have e:(l.takeWhile p)[i]=l[i]:=(List.takeWhile_prefix p).getElem h;grind
theorem gd{s:ByteArray}{k:Nat}(a:k<s.data.toList.length)(h:k<s.size):s.data.toList[k]'a=s[k]'h:=by simp;rfl
theorem A67{s:ByteArray}{en a k:Nat}(d:F4 s.data.toList en=a)(h1:en<=k)(e:k<a)(j:k<s.size):N1 s[k]=true:=by have h:s.data.toList.length=s.size:=oh;unfold F4 at d;have b:k-en<((s.data.toList.drop en).takeWhile N1).length:=oa;have:=A66 b oc;rw[List.getElem_drop]at this;grind[gd]
theorem AJ3{s:ByteArray}{en a:Nat}(w:en<=s.size)(d:F4 s.data.toList en=a)(m:a<s.size):N1 s[a]=false:=by
 have b:s.data.toList.length=s.size:=oh;cases h:N1 s[a]with
 |false=>rfl
 |true=>
  have p:N1 (s.data.toList[a]'(oa))=true:=by rw[gd _ m];exact h
  have e:∀(n k:Nat),k+n=a->en<=k->F4 s.data.toList k=F4 s.data.toList a:=by
   intro n;induction n with
   |zero=>simp
   |succ n x=>
    intro k h1 l;have hk:k<s.data.toList.length:=by rw[b];omega
    have:=A67 (k:=k) d l oa oa;rw[<-A63 hk (by assumption)];grind
  have j:=e (a-en) en (by grind[nZ]) (AD _);rw[d,<-A63 oa p]at j;grind[nZ]
theorem A68{s:ByteArray}{a n k:Nat}(d:JR s.data.toList a=n)(e:k<n)(b:a+k<s.size):K7 s[a+k]=true:=by have h:s.data.toList.length=s.size:=oh;unfold JR at d;have:=A66 (l:=s.data.toList.drop a) (p:=K7) (i:=k) oa oc;rw[List.getElem_drop,gd _ b]at this;exact this
theorem A69{s:ByteArray}{a n:Nat}(d:JR s.data.toList a=n)(l:a+n<s.size):K7 s[a+n]=false:=by
 have b:s.data.toList.length=s.size:=oh;cases h:K7 s[a+n]with
 |false=>rfl
 |true=>
  have e:∀(m k:Nat),k+m=n->JR s.data.toList (a+k)=m+JR s.data.toList (a+n):=by
   intro m;induction m with
   |zero=>simp
   |succ m p=>
    intro k h1;have hk:a+k<s.data.toList.length:=by rw[b];omega
    have:=A68 (k:=k) d oa oa;rw[A64 hk (by assumption)];have:=p (k+1) oa;grind
  have j:=e n 0 oa;rw[CE,d,A64 oa (by rw[gd _ l];exact h)]at j;omega
theorem AJ4{c:UInt8}(h:N1 c=true):c=32\/c=9\/c=10:=by simp only[N1,C5,CI]at h;grind
theorem WV{c d:UInt8}{n:Int}(b:(d.toNat:Int)=n)(h:c≠d):((c.toNat:Int)==n)=false:=by
 cases a:((c.toNat:Int)==n)with
 |false=>rfl
 |true=>have:=CI.1 a;grind[absurd,UInt8.toNat_inj,Int.ofNat.inj]
theorem zV{c d:UInt8}{n:Int}(a:(d.toNat:Int)=n)(h:c=d):((c.toNat:Int)==n)=true:=by grind
theorem AJ5{c:UInt8}(h:N1 c=false):((c.toNat:Int)==32)=false/\((c.toNat:Int)==9)=false/\((c.toNat:Int)==10)=false:=by simp only[N1,BM,beq_eq_false_iff_ne]at h;exact⟨WV (d:=32) rfl h.1.1,WV (d:=9) rfl h.1.2,WV (d:=10) rfl h.2⟩
def IV(w:World)(b:Nat)(s:ByteArray)(en:Nat)(op:Int)(e:Ending)(w':World):Prop:=match FQ s en op with
 | .ok r=>e=.returned (.tuple #[])/\RdAt w' b s r/\Frm b w w'
 | .error a=>e=.panicked (QG a 6)/\Frm b w w'
theorem o5{w w':World}{b:Nat}{s:ByteArray}{en:Nat}{op:Int}{r:RS}(h:FQ s en op=.ok r)(h1:RdAt w' b s r)(a:Frm b w w'):IV w b s en op (.returned (.tuple #[])) w':=by unfold IV;grind
theorem A6A{w w':World}{b:Nat}{s:ByteArray}{en:Nat}{op:Int}{a:Nat}(h:FQ s en op=.error a)(d:Frm b w w'):IV w b s en op (.panicked (QG a 6)) w':=by unfold IV;grind
def A6B:Prop:=∀(t:ByteArray) (W:World),KN t=true->Calls Tryz.prog 365 #[.string t] W λe w'=>e=.returned (.string (RW t))/\Below W.heap.size W w'
def NC:Prop:=∀(b:Nat) (s:ByteArray) (r:RS) (w:World),s.size<=4000->r.en<=s.size->RdAt w b s r->Calls Tryz.prog 335 #[.pointer (some ⟨b,0,none⟩)] w (IV w b s r.en r.op)
def OY{α:Type}(w:World)(b:Nat)(s:ByteArray)(F:Except (Nat×Int) (α×RS))(V:α->World->Value->Prop)(e:Ending)(w':World):Prop:=match F with
 | .ok (x,r)=>∃v,e=.returned v/\V x w' v/\RdAt w' b s r/\Frm b w w'
 | .error (a,c)=>e=.panicked (QG a c)/\Frm b w w'
theorem O5{α:Type}{w w':World}{b:Nat}{s:ByteArray}{F:Except (Nat×Int) (α×RS)}{V:α->World->Value->Prop}{x:α}{r:RS}{v:Value}(h:F=.ok (x,r))(h1:V x w' v)(a:RdAt w' b s r)(d:Frm b w w'):OY w b s F V (.returned v) w':=by rw[h];exact⟨v,rfl,h1,a,d⟩
theorem JS{α:Type}{w w':World}{b:Nat}{s:ByteArray}{F:Except (Nat×Int) (α×RS)}{V:α->World->Value->Prop}{a:Nat}{c:Int}(h:F=.error (a,c))(d:Frm b w w'):OY w b s F V (.panicked (QG a c)) w':=by rw[h];exact⟨rfl,d⟩
theorem zW{x y:ByteArray}:(x.toList==y.toList)=decide (x=y):=by rw[ByteArray.toList_eq,ByteArray.toList_eq,Bool.eq_iff_iff];simp only[CI,BA];refine⟨λh=>?_,λh=>by rw[h]⟩;cases x;simp_all
theorem A6C(D:NC)(b:Nat)(s word:ByteArray)(r:RS)(w:World)(O:s.size<=4000)(z:r.en<=s.size)(p:RdAt w b s r):
 Calls Tryz.prog 380 #[.pointer (some ⟨b,0,none⟩),.string word] w (OY w b s (IU s word r) λx _ v=>v=.bool x):=by
 have B:=tf;obtain⟨en,k,tx,d,tg,op⟩:=r;have HR:=Lib.hid p;have E:=D b s _ w O z p;have HN:=Lib.hid E;obtain⟨h0,h1,G,H,I,J,K,L⟩:=p.cell;simp only at h1 G H I J K;clear L p D E;by_cases hk:k=2
 rotate_left
 .have M:(k==2)=false:=by simp[hk]
  have N:(k !=2)=true:=by simp[hk]
  have HF:=Lib.hid (show IU s word ⟨en,k,tx,d,tg,op⟩=.ok (false,_) by unfold IU;rw[if_pos (.inl hk)]);clear hk;go_enter Tryz.func380,Tryz.ntmps380;go_wp2;go_ret;exact O5 HF.out rfl HR.out (Frm.refl b w)
 subst hk;by_cases y:tx=word
 rotate_left
 .have A:(tx.toList==word.toList)=false:=by rw[zW];simp[y]
  have Q:(tx.toList !=word.toList)=true:=by rw[bne,A];rfl
  have HF:=Lib.hid (show IU s word ⟨en,2,tx,d,tg,op⟩=.ok (false,_) by unfold IU;rw[if_pos (.inr y)]);clear y;go_enter Tryz.func380,Tryz.ntmps380;go_wp2;go_ret;exact O5 HF.out rfl HR.out (Frm.refl b w)
 subst y;have l:IU s tx ⟨en,2,tx,d,tg,op⟩=match FQ s en op with
  | .ok r=>.ok (true,r)
  | .error a=>.error (a,6):=by unfold IU;rw[if_neg oh]<;>rfl
 have HF:=Lib.hid l;clear l;cases m:FQ s en op with
 |ok r=>
  have HT:=Lib.hid m;have HF2:=Lib.hid (show IU s tx ⟨en,2,tx,d,tg,op⟩=.ok (true,r) by rw[HF.out,HT.out]);clear m HF;go_enter Tryz.func380,Tryz.ntmps380
  go_wp2_with (refine(HN.out).mono ?_;intro e R h;unfold IV at h;rw[HT.out]at h;obtain⟨rfl,C,j⟩:=h;have G1:=Lib.hid C;have G2:=Lib.hid j;clear C j)
  go_ret;exact O5 HF2.out rfl G1.out G2.out
 |error a=>
  have HT:=Lib.hid m;have HF2:=Lib.hid (show IU s tx ⟨en,2,tx,d,tg,op⟩=.error (a,6) by rw[HF.out,HT.out]);clear m HF;go_enter Tryz.func380,Tryz.ntmps380
  go_wp2_with (refine(HN.out).mono ?_;intro e R h;unfold IV at h;rw[HT.out]at h;obtain⟨rfl,j⟩:=h;have G2:=Lib.hid j;clear j)
  exact⟨rfl,JS HF2.out G2.out⟩
theorem A6D(C:NC)(b:Nat)(s:ByteArray)(r:RS)(w:World)(O:s.size<=4000)(y:r.en<=s.size)(p:RdAt w b s r):
 Calls Tryz.prog 385 #[.pointer (some ⟨b,0,none⟩)] w (OY w b s (J1 s r) λx _ v=>v=.string x):=by
 have A:=tf;obtain⟨en,k,tx,d,tg,op⟩:=r;have HR:=Lib.hid p;have D:=C b s _ w O y p;have HN:=Lib.hid D;obtain⟨h0,h1,E,G,H,I,J,K⟩:=p.cell;simp only at h1 E G H I J;clear K p C D;by_cases hk:k=1
 rotate_left
 .have M:(k==1)=false:=by simp[hk]
  have N:(k !=1)=true:=by simp[hk]
  have HF:=Lib.hid (show J1 s ⟨en,k,tx,d,tg,op⟩=.error (d,6) by unfold J1;rw[if_pos hk]);clear hk;go_enter Tryz.func385,Tryz.ntmps385
  go_wp2_with (refine(WU _ _ _).mono ?_;intro e R L;obtain⟨rfl,z⟩:=L;replace z:=z.symm;subst z)
  exact⟨rfl,JS HF.out (Frm.refl b w)⟩
 subst hk;have l:J1 s ⟨en,1,tx,d,tg,op⟩=match FQ s en op with
  | .ok r=>.ok (tx,r)
  | .error a=>.error (a,6):=by unfold J1;rw[if_neg oh]<;>rfl
 have HF:=Lib.hid l;clear l;cases m:FQ s en op with
 |ok r=>
  have HT:=Lib.hid m;have HF2:=Lib.hid (show J1 s ⟨en,1,tx,d,tg,op⟩=.ok (tx,r) by rw[HF.out,HT.out]);clear m HF;go_enter Tryz.func385,Tryz.ntmps385
  go_wp2_with (refine(HN.out).mono ?_;intro e Q h;unfold IV at h;rw[HT.out]at h;obtain⟨rfl,B,j⟩:=h;have G1:=Lib.hid B;have G2:=Lib.hid j;clear B j)
  go_ret;exact O5 HF2.out rfl G1.out G2.out
 |error a=>
  have HT:=Lib.hid m;have HF2:=Lib.hid (show J1 s ⟨en,1,tx,d,tg,op⟩=.error (a,6) by rw[HF.out,HT.out]);clear m HF;go_enter Tryz.func385,Tryz.ntmps385
  go_wp2_with (refine(HN.out).mono ?_;intro e Q h;unfold IV at h;rw[HT.out]at h;obtain⟨rfl,j⟩:=h;have G2:=Lib.hid j;clear j)
  exact⟨rfl,JS HF2.out G2.out⟩
theorem L_{w:World}{g:Nat}{a' b' c' d' e':Value}:Frm g w (((((w.setCell ⟨g,0,none⟩ a').setCell ⟨g,1,none⟩ b').setCell ⟨g,2,none⟩ c').setCell ⟨g,3,none⟩ d').setCell ⟨g,4,none⟩ e'):=
 (((((Frm.refl g w).set (.inl rfl)).set (.inl rfl)).set (.inl rfl)).set (.inl rfl)).set (.inl rfl)
theorem AJ6{w:World}{g:Nat}{a' b':Value}:Frm g w ((w.setCell ⟨g,0,none⟩ a').setCell ⟨g,1,none⟩ b'):=((Frm.refl g w).set (.inl rfl)).set (.inl rfl)
theorem Frm.under{b c:Nat}{w w' a:World}(h:Frm b w w')(k:Frm c w' a)(l:w.heap.size<=c):Frm b w a:=
 ⟨AM h.size k.size,λj d e=>(k.heap j (AO d h.size) oa).trans (h.heap j d e),k.os.trans h.os,k.tape.trans h.tape,k.out.trans h.out⟩
inductive TrAt (S:Nat->Prop) (w:World):Tr->List Value->Prop
 |leaf (k:Int) (n:ByteArray) (l:Bool) (x:ByteArray):TrAt S w (.node k n l x []) [.int .i64 k,.string n,.bool l,.string x,.slice none 0 0]
 |node (k:Int) (n:ByteArray) (l:Bool) (x:ByteArray) (kids:List Tr) (g cap:Nat) (vs:List (List Value)) (hS:S g) (hlt:g<w.heap.size) (hc:kids.length<=cap) (hl:vs.length=kids.length)
  (hx:∀(i:Nat) (v:List Value),vs[i]?=some v->∀(j:Nat) (u:Value),v[j]?=some u->w.cell? ⟨g,i*5+j,none⟩=some u)
  (hk:∀(i:Nat) (t:Tr) (v:List Value),kids[i]?=some t->vs[i]?=some v->TrAt S w t v):
  TrAt S w (.node k n l x kids) [.int .i64 k,.string n,.bool l,.string x,.slice (some ⟨g,0,none⟩) kids.length cap]
theorem TrAt.five{S:Nat->Prop}{w:World}{t:Tr}{l:List Value}(h:TrAt S w t l):l.length=5:=by cases h<;>rfl
theorem TrAt.one{S:Nat->Prop}{w:World}{t:Tr}{l:List Value}(h:TrAt S w t l):∀u∈l,u.oneCell'=true:=by cases h<;>(intro u a;simp at a;rcases a with rfl|rfl|rfl|rfl|rfl<;>rfl)
theorem GU{w w':World}{g:Nat}(h:w'.heap[g]?=w.heap[g]?)(i:Nat):w'.cell? ⟨g,i,none⟩=w.cell? ⟨g,i,none⟩:=by simp only[World.cell?,h]
theorem OZ{w w':World}{g:Nat}(h:w'.heap[g]?=w.heap[g]?)(i:Nat):w'.frozen? ⟨g,i,none⟩=w.frozen? ⟨g,i,none⟩:=by simp only[World.frozen?,h]
theorem TrAt.keep{S S':Nat->Prop}{w w':World}(z:w.heap.size<=w'.heap.size)(h:∀j,S j->j<w.heap.size->w'.heap[j]?=w.heap[j]? /\S' j){t:Tr}{l:List Value}(A:TrAt S w t l):TrAt S' w' t l:=by
 induction A with
 |leaf k n l x=>exact .leaf k n l x
 |node k n l x b g d G p a s y D hk E=>have⟨e,m⟩:=h g p a;exact .node k n l x b g d G m (AO a z) s y (λi v C j u B=>(GU e _).trans (D i v C j u B)) E
theorem Frm.setCells{b:Nat}{w:World}:∀{vs:List Value} {w':World},Frm b w w'->∀{c:Nat},c=b\/w.heap.size<=c->∀{o:Nat},Frm b w (w'.setCells c o vs):=by
 intro vs;induction vs with
 |nil=>intro w' h c _ o;exact h
 |cons v r d=>intro w' h c a o;exact d (h.set a) a
theorem AJ7(c:Nat):∀(vs:List Value) (o:Nat) (w:World),(w.setCells c o vs).heap.size=w.heap.size:=by
 intro vs;induction vs with
 |nil=>intro o w;rfl
 |cons v r a=>intro o w;rw[show w.setCells c o (v::r)=(w.setCell ⟨c,o,none⟩ v).setCells c (o+1) r from rfl,a];simp
structure RowAt(w:World)(g cap:Nat)(vs:List (List Value)):Prop where
 lt:g<w.heap.size
 le:vs.length<=cap
 five:∀v∈vs,v.length=5
 cells:∀(i:Nat) (v:List Value),vs[i]?=some v->∀(j:Nat) (u:Value),v[j]?=some u->w.cell? ⟨g,i*5+j,none⟩=some u
 there:∀j,j<cap*5->(w.cell? ⟨g,j,none⟩).isSome=true
 free:∀j,w.frozen? ⟨g,j,none⟩=false
theorem RowAt.keep{w w':World}{g cap:Nat}{vs:List (List Value)}(h:RowAt w g cap vs)(b:w.heap.size<=w'.heap.size)(e:w'.heap[g]?=w.heap[g]?):RowAt w' g cap vs:=
 ⟨AO h.lt b,h.le,h.five,λi v l j u d=>(GU e _).trans (h.cells i v l j u d),λj a=>by rw[GU e];exact h.there j a,λj=>(OZ e j).trans (h.free j)⟩
noncomputable def zLic:Value:=(Tryz.t399.zero).getD default
theorem zX:Tryz.prog.info? 399=some Tryz.t399/\Tryz.t399.zero=some zLic/\Tryz.t399.size=5/\Tryz.t399.bytes=72/\zLic.cells.size=5:=⟨oe,oe,oe,oe,oe⟩
theorem AJ8(W:World){g cap ab:Nat}{vs:List (List Value)}{news:List Value}(l:RowAt W g cap vs)(a:vs.length+1<=cap)(p:news.length=5)(h1:∀u∈news,u.oneCell'=true)
 (m:∀(j:Nat) (u:Value),news[j]?=some u->W.cell? ⟨ab,j,none⟩=some u)(ty:TypeId):
 (Builtin.append_ #[397,397] ty #[.slice (some ⟨g,0,none⟩) vs.length cap,.slice (some ⟨ab,0,none⟩) 1 1]).run Tryz.prog W=.ok (.slice (some ⟨g,0,none⟩) (vs.length+1) cap) (W.setCells g (vs.length*5) news):=by
 obtain⟨hi,x,e,w,s⟩:=zX;have b:Src Tryz.prog Tryz.t399.size 397 (.slice (some ⟨ab,0,none⟩) 1 1) 1 news W:=Src.ofSlice W Tryz.underlying397 ⟨ab,0,none⟩ 1 1 news (by rw[e];omega) (λj u d=>by rw[Addr.add_lit,BO];exact m j u d) h1;have h:=run_append_room_src W 397 397 ty 399 _ Tryz.underlying397 hi g 0 vs.length cap _ 1 news b a (by rw[e,p];intro j d;rw[BO];exact l.there _ oa) (by rw[e];intro j d;exact l.free _);grind
theorem A6E{vs:List (List Value)}:(∀v∈vs,v.length=5)->vs.flatten.length=vs.length*5:=by induction vs<;>grind
theorem AJ9{vs:List (List Value)}(h:∀v∈vs,v.length=5):∀{i j:Nat} {v:List Value} {u:Value},vs[i]?=some v->v[j]?=some u->vs.flatten[i*5+j]?=some u:=by
 induction vs with
 |nil=>simp
 |cons a r l=>intro i j v u e d;have b:=h a AE;rw[List.flatten_cons];cases i<;>grind
theorem AJA{vs:List (List Value)}(h:∀v∈vs,v.length=5):∀{q:Nat} {u:Value},vs.flatten[q]?=some u->∃v,vs[q / 5]?=some v/\v[q % 5]?=some u:=by
 induction vs with
 |nil=>simp
 |cons a r e=>intro q u b;have d:=h a AE;rw[List.flatten_cons]at b;grind[List.getElem?_append_left,Nat.div_eq_of_lt,Nat.mod_eq_of_lt,List.getElem?_append_right,List.mem_cons_of_mem]
theorem AJB(W:World){g cap ab:Nat}{vs:List (List Value)}{news:List Value}(h:RowAt W g cap vs)(b:cap<vs.length+1)(d:vs.length<=1048576)(B:news.length=5)(h1:∀u∈news,u.oneCell'=true)
 (w:∀(j:Nat) (u:Value),news[j]?=some u->W.cell? ⟨ab,j,none⟩=some u)(ty:TypeId):
 (Builtin.append_ #[397,397] ty #[.slice (some ⟨g,0,none⟩) vs.length cap,.slice (some ⟨ab,0,none⟩) 1 1]).run Tryz.prog W=.ok (.slice (some ⟨W.heap.size,0,none⟩) (vs.length+1) (grownCap W (vs.length+1) cap 399))
  (W.drew.alloc (.cells ((vs.flatten++news).toArray++Builtin.zeroCells zLic.cells (grownCap W (vs.length+1) cap 399-(vs.length+1))) 399)):=by
 obtain⟨hi,C,l,A,z⟩:=zX;have y:=h.le;have m:Src Tryz.prog Tryz.t399.size 397 (.slice (some ⟨ab,0,none⟩) 1 1) 1 news W:=Src.ofSlice W Tryz.underlying397 ⟨ab,0,none⟩ 1 1 news (by rw[l];omega) (λj u a=>by rw[Addr.add_lit,BO];exact w j u a) h1;have e:(Builtin.firstCells Tryz.t399.size vs.length (.slice (some ⟨g,0,none⟩) vs.length cap)).run Tryz.prog W.drew=.ok vs.flatten.toArray W.drew:=by
  rw[l];exact run_firstCells_some W.drew 5 vs.length ⟨g,0,none⟩ vs.length cap vs.flatten (A6E h.five) (λj v a=>by have⟨x,p,s⟩:=AJA h.five a;have:=h.cells _ _ p _ _ s;rw[Addr.add_lit,BO];rw[show j / 5*5+j % 5=j by omega]at this;exact this)
 grind[run_append_grow_src,zLic,Tryz.underlying397,growslice_fits]
theorem EX(w:World)(o:Go.Obj):(w.alloc o).heap.size=w.heap.size+1:=oh
theorem MH(w:World)(o:Go.Obj):(w.alloc o).heap[w.heap.size]?=some o:=(MapKept.heap_alloc w o).1
theorem AJC{w:World}{g o:Nat}{vs:List Value}(h:∀j,j<vs.length->(w.cell? ⟨g,o+j,none⟩).isSome=true){j:Nat}{v:Value}(b:vs[j]?=some v):(w.setCells g o vs).cell? ⟨g,o+j,none⟩=some v:=by have a:=(A3.1 b);rw[World.cell?_setCells_in g vs o w h j a.1];exact congrArg some a.2
theorem AJD(W:World){g cap ab:Nat}{vs:List (List Value)}{news:List Value}(b:RowAt W g cap vs)(z:vs.length<=1048576)(B:news.length=5)(h1:∀u∈news,u.oneCell'=true)
 (L:∀(j:Nat) (u:Value),news[j]?=some u->W.cell? ⟨ab,j,none⟩=some u):
 ∃E p W2,(∀ty,(Builtin.append_ #[397,397] ty #[.slice (some ⟨g,0,none⟩) vs.length cap,.slice (some ⟨ab,0,none⟩) 1 1]).run Tryz.prog W=.ok (.slice (some ⟨E,0,none⟩) (vs.length+1) p) W2)/\
  RowAt W2 E p (vs++[news])/\Frm g W W2/\(E=g\/W.heap.size<=E):=by
 have M:=b.le;by_cases a:vs.length+1<=cap
 .have x:∀j,j<news.length->(W.cell? ⟨g,vs.length*5+j,none⟩).isSome=true:=λj G=>b.there _ oa;refine⟨g,cap,W.setCells g (vs.length*5) news,AJ8 W b a B h1 L,⟨by rw[AJ7];exact b.lt,by simp;exact a,λv l=>?_,λi v l j u D=>?_,λj G=>?_,λj=>?_⟩,(Frm.refl g W).setCells (.inl rfl),.inl rfl⟩
  .rcases AZ.1 l with h|h
   .exact b.five v h
   .rw[AP.1 h];exact B
  .by_cases hi:i<vs.length
   .rw[BJ hi]at l;have N:=b.five v (AH l);have G:j<v.length:=(A3.1 D).1;rw[World.cell?_setCells_out g _ _ _ _ (λ_ _=>.inl (show i*5+j<vs.length*5 by omega))];exact b.cells i v l j u D
   .have J:i=vs.length:=by have:=(A3.1 l).1;simp at this;omega
    subst J;have e:v=news:=by simpa using l.symm
    subst e;exact AJC x D
  .exact World.isSome_setCells g _ _ W _ (b.there j G)
  .rw[World.frozen?_setCells];exact b.free j
 .have a:cap<vs.length+1:=oa;obtain⟨_,_,_,_,K⟩:=zX;have s:=AJB W b a z B h1 L;obtain⟨y,A⟩:∃y,grownCap W (vs.length+1) cap 399=y:=⟨_,rfl⟩;have I:vs.length+1<=y:=by rw[<-A];exact grownCap_ge W _ _ _
  rw[A]at s;have m:=MH W.drew (.cells ((vs.flatten++news).toArray++Builtin.zeroCells zLic.cells (y-(vs.length+1))) 399);have C:W.drew.heap.size=W.heap.size:=rfl;rw[C]at m;have w:=A6E b.five;have d:∀v∈vs++[news],v.length=5:=λv l=>by
   rcases AZ.1 l with h|h
   .exact b.five v h
   .rw[AP.1 h];exact B
  have H:(vs++[news]).flatten=vs.flatten++news:=oh;refine⟨W.heap.size,y,_,s,⟨by rw[EX,C];omega,by simp;exact I,d,λi v l j u D=>?_,λj G=>?_,λj=>?_⟩,((Frm.refl g W).drew).alloc _,.inr (AD _)⟩
  .have h:=AJ9 d l D;rw[H]at h;simp only[World.cell?,m];rw[if_neg oh,Array.getElem?_append_left (by have:=(A3.1 h).1;simpa using this)];simpa using h
  .simp only[World.cell?,m];rw[if_neg oh];have:j<((vs.flatten++news).toArray++Builtin.zeroCells zLic.cells (y-(vs.length+1))).size:=by rw[Array.size_append,size_zeroCells,K];simp only[B7,AI,w,B];omega
   rw[AU this];rfl
  .simp only[World.frozen?,m];simp
def WW(base:Nat)(t:Tr)(w':World)(v:Value):Prop:=∃(ak:Int) (an:ByteArray) (al:Bool) (ax:ByteArray) (so:Option Addr) (sn sc:Nat),v=.agg #[.int .i64 ak,.string an,.bool al,.string ax,.slice so sn sc]/\TrAt (base<=·) w' t [.int .i64 ak,.string an,.bool al,.string ax,.slice so sn sc]
def O_(s:ByteArray)(b g:Nat)(one:PF):Prop:=
 (∀(args:Array Value) (W:World),(callFunc g args).run Tryz.prog W=.ok (.enter g args) W)/\
 (∀(w:World) (r:RS) F,RdAt w b s r->r.en<=s.size->one r=some F->Calls Tryz.prog g #[.pointer (some ⟨b,0,none⟩)] w (OY w b s F (WW w.heap.size)))/\
 ∀(r:RS) (t:Tr) (r':RS),one r=some (.ok (t,r'))->r.en<=s.size->r'.en<=s.size
section
variable{ops:Array Oper}{o:Oper}{a:Act}{w:World}{K:Act->World->Prop}{Q:Exit->Act->World->Prop}{E:Prop}
theorem AJE{g cap ab:Nat}{vs:List (List Value)}{news:List Value}{n:Nat}(D:o.guard=none)(s x:Operand)(p:o.op=Op.call {callee:=Callee.builtin Builtin.append,args:=#[s,x],argTypes:=#[397,397]})
 (I:a.eval s=.slice (some ⟨g,0,none⟩) n cap)(L:a.eval x=.slice (some ⟨ab,0,none⟩) 1 1)(m:vs.length=n)
 (H:RowAt w g cap vs)(h:vs.length<=1048576)(G:news.length=5)(h1:∀u∈news,u.oneCell'=true)(C:∀(j:Nat) (u:Value),news[j]?=some u->w.cell? ⟨ab,j,none⟩=some u)
 (B:∀d b l,RowAt l d b (vs++[news])->Frm g w l->(d=g\/w.heap.size<=d)->K (a.put o.dst (.slice (some ⟨d,0,none⟩) (n+1) b)) l):
 if Region.wanted o (yielded ops a.tmps)=true then Oper.wp Tryz.prog o a w K Q else E:=by
 have J:Region.wanted o (yielded ops a.tmps)=true:=by simp[Region.wanted,D]
 rw[if_pos J];have⟨d,b,l,e,y,z,A⟩:=AJD w H h G h1 C;subst m;unfold Oper.wp;simp[execOp,p,resolve,invoke,builtin,I,L,e,Result.andThen];exact B d b l y z A
theorem AJF{g b:Nat}{s:ByteArray}{t:Tr}{r:RS}(G:o.guard=none)(x:Operand)(y:o.op=Op.call {callee:=Callee.value x,args:=#[],argTypes:=#[]})(J:a.eval x=.func (.func g) #[.pointer (some ⟨b,0,none⟩)] #[])
 (B:∀(args:Array Value) (W:World),(callFunc g args).run Tryz.prog W=.ok (.enter g args) W)
 (D:Calls Tryz.prog g #[.pointer (some ⟨b,0,none⟩)] w (OY w b s (.ok (t,r)) (WW w.heap.size)))
 (C:∀ (j:Int) (an:ByteArray) (al:Bool) (l:ByteArray) (p:Option Addr) (m sc:Nat) (d:World),TrAt (w.heap.size<=·) d t [.int .i64 j,.string an,.bool al,.string l,.slice p m sc]->RdAt d b s r->Frm b w d ->
  K (a.put o.dst (.agg #[.int .i64 j,.string an,.bool al,.string l,.slice p m sc])) d):
 if Region.wanted o (yielded ops a.tmps)=true then Oper.wp Tryz.prog o a w K Q else E:=by
 have I:Region.wanted o (yielded ops a.tmps)=true:=by simp[Region.wanted,G]
 rw[if_pos I];unfold Oper.wp;have h:(execOp a.eval o).run Tryz.prog w=.ok (.enter g #[.pointer (some ⟨b,0,none⟩)]) w:=by have:=B #[.pointer (some ⟨b,0,none⟩)] w;simp only[execOp,y,resolve,invoke,J,Deferred.ofValue,Array.map_empty,pure_bind,Array.append_empty];exact this
 rw[h];refine D.mono λe d H=>?_;obtain⟨v,rfl,⟨j,an,al,l,p,m,sc,rfl,h1⟩,z,A⟩:=H;exact C j an al l p m sc d h1 z A
theorem A6F{g b:Nat}{s:ByteArray}{l:Nat}{m:Int}(B:o.guard=none)(x:Operand)(j:o.op=Op.call {callee:=Callee.value x,args:=#[],argTypes:=#[]})(G:a.eval x=.func (.func g) #[.pointer (some ⟨b,0,none⟩)] #[])
 (y:∀(args:Array Value) (W:World),(callFunc g args).run Tryz.prog W=.ok (.enter g args) W)
 (A:Calls Tryz.prog g #[.pointer (some ⟨b,0,none⟩)] w (OY w b s (.error (l,m)) (WW w.heap.size)))
 (z:∀(d:World),Frm b w d->Q (.panic (QG l m)) a d):
 if Region.wanted o (yielded ops a.tmps)=true then Oper.wp Tryz.prog o a w K Q else E:=by
 have D:Region.wanted o (yielded ops a.tmps)=true:=by simp[Region.wanted,B]
 rw[if_pos D];unfold Oper.wp;have h:(execOp a.eval o).run Tryz.prog w=.ok (.enter g #[.pointer (some ⟨b,0,none⟩)]) w:=by have:=y #[.pointer (some ⟨b,0,none⟩)] w;simp only[execOp,j,resolve,invoke,G,Deferred.ofValue,Array.map_empty,pure_bind,Array.append_empty];exact this
 rw[h];refine A.mono λe d C=>?_;obtain⟨rfl,p⟩:=C;exact z d p
end
theorem ND{s:ByteArray}{en:Nat}{op:Int}{r:RS}(h:FQ s en op=.ok r)(b:en<=s.size):r.en<=s.size:=by
 have d:s.data.toList.length=s.size:=oh;have h1:=zU (l:=s.data.toList) (k:=en) oa;have e:=A65 (l:=s.data.toList) (k:=F4 s.data.toList en) oa;unfold FQ at h;split at h
 .cases h;exact b
 .have a:F4 s.data.toList en+1<=s.size:=oa;split at h
  .split at h
   .cases h;exact a
   .split at h
    .cases h;exact a
    .split at h
     .cases h;exact a
     .cases h
  .split at h
   .cases h;show _+_<=_;omega
   .split at h
    .cases h;show _+_<=_;omega
    .cases h
theorem U4{s word:ByteArray}{r b:RS}{x:Bool}(h:IU s word r=.ok (x,b))(a:r.en<=s.size):b.en<=s.size:=by
 unfold IU at h;split at h
 .cases h;exact a
 .split at h
  .next d=>cases h;exact ND d a
  .cases h
def Five(w:World)(g:Nat)(a b c d e:Value):Prop:=w.cell? ⟨g,0,none⟩=some a/\w.cell? ⟨g,1,none⟩=some b/\w.cell? ⟨g,2,none⟩=some c/\w.cell? ⟨g,3,none⟩=some d/\w.cell? ⟨g,4,none⟩=some e/\
 w.frozen? ⟨g,0,none⟩=false/\w.frozen? ⟨g,1,none⟩=false/\w.frozen? ⟨g,2,none⟩=false/\w.frozen? ⟨g,3,none⟩=false/\w.frozen? ⟨g,4,none⟩=false
theorem SC{w:World}{g:Nat}{a b c d e:Value}{el:TypeId}(h:w.heap[g]?=some (.cells #[a,b,c,d,e] el (0,0))):Five w g a b c d e:=by refine⟨?_,?_,?_,?_,?_,?_,?_,?_,?_,?_⟩<;>simp[World.cell?,World.frozen?,h]
theorem QH{b:Nat}{w w1:World}{a c d e f:Value}{el:TypeId}(j:b<w.heap.size)(h:Frm b (w.alloc (.cells #[a,c,d,e,f] el)) w1):Five w1 w.heap.size a c d e f:=
 SC ((h.heap w.heap.size oh oa).trans (MapKept.heap_alloc w _).1)
theorem Five.keep{w w':World}{g:Nat}{a b c d e:Value}(h:Five w g a b c d e)(k:w'.heap[g]?=w.heap[g]?):Five w' g a b c d e:=by obtain⟨h0,h1,p,s,x,f0,f1,j,l,m⟩:=h;exact⟨(GU k _).trans h0,(GU k _).trans h1,(GU k _).trans p,(GU k _).trans s,(GU k _).trans x,(OZ k _).trans f0,(OZ k _).trans f1,(OZ k _).trans j,(OZ k _).trans l,(OZ k _).trans m⟩
theorem zY{R:Nat->Prop}:(∃m,R m)->∃m,R m/\∀k,R k->m<=k:=by
 intro ⟨m,a⟩;have key:∀n m,m<=n->R m->∃m,R m/\∀k,R k->m<=k:=by
  intro n;induction n with
  |zero=>intro m h a;exact⟨m,a,λk _=>oa⟩
  |succ n e=>intro m h a;apply BI;intro b;apply b;refine⟨m,a,λk hk=>?_⟩;apply BI;intro d;exact b (e k oa hk)
 exact key m m (AD _) a
open Classical in
noncomputable def WX(R:Nat->World->Prop)(w:World):Nat:=if h:∃m,R m w then Classical.choose (zY h)else 0
theorem AJG{R:Nat->World->Prop}{w:World}(h:∃m,R m w):R (WX R w) w:=by unfold WX;rw[dif_pos h];exact(Classical.choose_spec (zY h)).1
theorem AJH{R:Nat->World->Prop}{w:World}{k:Nat}(h:R k w):WX R w<=k:=by unfold WX;rw[dif_pos ⟨k,h⟩];exact(Classical.choose_spec (zY ⟨k,h⟩)).2 k h
structure RowR(w:World)(b B10:Nat)(s word:ByteArray)(kind:Int)(one:PF)(FL:Except (Nat×Int) (List Tr×RS))(m:Nat)(wr:World)(kids:List Tr)(r:RS)(g cap:Nat)(vs:List (List Value)):Prop where
 en:r.en<=s.size
 rd:RdAt wr b s r
 lf:K8 s word one m kids r=some FL
 row:RowAt wr g cap vs
 len:vs.length=kids.length
 few:kids.length+m<=5000
 gb:g≠b
 g10:g≠B10
 g8:w.heap.size<g
 b10:w.heap.size<B10/\B10<wr.heap.size/\B10≠b
 out:Five wr B10 (.int .i64 kind) (.string ⟨#[]⟩) (.bool false) (.string ⟨#[]⟩) (.slice (some ⟨g,0,none⟩) kids.length cap)
 res:Five wr w.heap.size (.int .i64 0) (.string ⟨#[]⟩) (.bool false) (.string ⟨#[]⟩) (.slice none 0 0)
 trs:∀(i:Nat) (t:Tr) (v:List Value),kids[i]?=some t->vs[i]?=some v->TrAt (λj=>w.heap.size<j/\j≠B10/\j≠g) wr t v
 frm:Frm b w wr
def bO(w:World)(b B10:Nat)(s word:ByteArray)(kind:Int)(one:PF)(FL:Except (Nat×Int) (List Tr×RS))(m:Nat)(wr:World):Prop:=∃kids r g cap vs,RowR w b B10 s word kind one FL m wr kids r g cap vs
theorem AJI{w w1:World}{b:Nat}{s tx:ByteArray}{kind:Int}{A:PF}{FL:Except (Nat×Int) (List Tr×RS)}{m:Nat}{t:Tr}{r:RS}{a:Int}{an:ByteArray}{al:Bool}{d:ByteArray}{l:Option Addr}{e sc:Nat}
 (K:b<w.heap.size)(G1:RdAt w1 b s r)(G2:Frm b (w.alloc (.cells #[.int .i64 0,.string ⟨#[]⟩,.bool false,.string ⟨#[]⟩,.slice none 0 0] 399)) w1)
 (HT:TrAt ((w.alloc (.cells #[.int .i64 0,.string ⟨#[]⟩,.bool false,.string ⟨#[]⟩,.slice none 0 0] 399)).heap.size<=·) w1 t [.int .i64 a,.string an,.bool al,.string d,.slice l e sc])
 (HL:K8 s tx A m [t] r=some FL)(C:r.en<=s.size)(M:m<=4500):
 bO w b (w1.heap.size+1+1) s tx kind A FL m (((w1.alloc (.cells #[.int .i64 a,.string an,.bool al,.string d,.slice l e sc] 399)).alloc (.cells #[.int .i64 a,.string an,.bool al,.string d,.slice l e sc] 399)).alloc
  (.cells #[.int .i64 kind,.string ⟨#[]⟩,.bool false,.string ⟨#[]⟩,.slice (some ⟨w1.heap.size+1,0,none⟩) 1 1] 399)):=by
 have L:=G2.size;rw[EX]at L
 have x:∀ j,j<w1.heap.size->(((w1.alloc (.cells #[.int .i64 a,.string an,.bool al,.string d,.slice l e sc] 399)).alloc (.cells #[.int .i64 a,.string an,.bool al,.string d,.slice l e sc] 399)).alloc
  (.cells #[.int .i64 kind,.string ⟨#[]⟩,.bool false,.string ⟨#[]⟩,.slice (some ⟨w1.heap.size+1,0,none⟩) 1 1] 399)).heap[j]?=w1.heap[j]?:=λj y=>by
  rw[IG (by rw[EX,EX];omega),IG (by rw[EX];omega),IG y]
 have D:(((w1.alloc (.cells #[.int .i64 a,.string an,.bool al,.string d,.slice l e sc] 399)).alloc (.cells #[.int .i64 a,.string an,.bool al,.string d,.slice l e sc] 399)).alloc
  (.cells #[.int .i64 kind,.string ⟨#[]⟩,.bool false,.string ⟨#[]⟩,.slice (some ⟨w1.heap.size+1,0,none⟩) 1 1] 399)).heap[w1.heap.size+1]?=some (.cells #[.int .i64 a,.string an,.bool al,.string d,.slice l e sc] 399 (0,0)):=by
  rw[IG (by rw[EX,EX];omega)];have:=MH (w1.alloc (.cells #[.int .i64 a,.string an,.bool al,.string d,.slice l e sc] 399)) (.cells #[.int .i64 a,.string an,.bool al,.string d,.slice l e sc] 399);rw[EX]at this;exact this
 have B:(((w1.alloc (.cells #[.int .i64 a,.string an,.bool al,.string d,.slice l e sc] 399)).alloc (.cells #[.int .i64 a,.string an,.bool al,.string d,.slice l e sc] 399)).alloc
  (.cells #[.int .i64 kind,.string ⟨#[]⟩,.bool false,.string ⟨#[]⟩,.slice (some ⟨w1.heap.size+1,0,none⟩) 1 1] 399)).heap[w1.heap.size+1+1]?=some (.cells #[.int .i64 kind,.string ⟨#[]⟩,.bool false,.string ⟨#[]⟩,.slice (some ⟨w1.heap.size+1,0,none⟩) 1 1] 399 (0,0)):=by
  have:=MH ((w1.alloc (.cells #[.int .i64 a,.string an,.bool al,.string d,.slice l e sc] 399)).alloc (.cells #[.int .i64 a,.string an,.bool al,.string d,.slice l e sc] 399)) (.cells #[.int .i64 kind,.string ⟨#[]⟩,.bool false,.string ⟨#[]⟩,.slice (some ⟨w1.heap.size+1,0,none⟩) 1 1] 399);rw[EX,EX]at this;exact this
 have five:=SC D
 refine ⟨[t],r,w1.heap.size+1,1,[[.int .i64 a,.string an,.bool al,.string d,.slice l e sc]],C,(x b G1.lt).trans G1,HL,⟨by rw [EX,EX,EX]; omega,AD _,λv p=>?_,λi v p j u h=>?_,λj y=>?_,λj=>?_⟩,rfl,by simp; omega,
  by have:=G1.lt;omega,oa,oa,⟨oa,by rw[EX,EX,EX];omega,by have:=G1.lt;omega⟩,SC B,(QH K G2).keep (x _ oa),λi N v E p=>?_,(((((Frm.refl b w).alloc _).trans G2).alloc _).alloc _).alloc _⟩
 .rw[AP.1 p];rfl
 .cases i with
  |zero=>
   simp at p;subst p;rw[Nat.zero_mul,BO];obtain⟨c0,G,H,I,J,_⟩:=five
   match j,h with
   |0,h=>simp at h;subst h;exact c0
   |1,h=>simp at h;subst h;exact G
   |2,h=>simp at h;subst h;exact H
   |3,h=>simp at h;subst h;exact I
   |4,h=>simp at h;subst h;exact J
  |succ i=>simp at p
 .simp only[World.cell?,D];simp;omega
 .simp only[World.frozen?,D];simp
 .cases i with
  |zero=>simp at E p;subst E p;refine HT.keep (by rw[EX,EX,EX];omega) λj y z=>⟨x j z,?_⟩;have y:(w.alloc _).heap.size<=j:=y;rw[EX]at y;exact⟨oa,oa,oa⟩
  |succ i=>simp at E
theorem Five.set4{w:World}{g:Nat}{a b c d e v:Value}(h:Five w g a b c d e):Five (w.setCell ⟨g,4,none⟩ v) g a b c d v:=by obtain⟨h0,h1,p,s,x,f0,f1,j,l,m⟩:=h;refine⟨?_,?_,?_,?_,?_,?_,?_,?_,?_,?_⟩<;>simp[go_sem,h0,h1,p,s,x,f0,f1,j,l,m]
theorem AJJ{w wr z x y:World}{b B10 n g cap m d:Nat}{s tx:ByteArray}{kind:Int}{B:PF}{FL:Except (Nat×Int) (List Tr×RS)}{a:List Tr}{r J:RS}{vs:List (List Value)}{K:Tr}{news:List Value}
 (hb:b<w.heap.size)(H:RowR w b B10 s tx kind B FL (n+1) wr a r g cap vs)(M:Frm b wr z)(g5:RdAt x b s J)(N:Frm b z.drew x)(hT:TrAt (z.drew.heap.size<=·) x K news)(X:K8 s tx B n (a++[K]) J=some FL)
 (T:J.en<=s.size)(k1:RowAt y m d (vs++[news]))(Z:Frm g (x.alloc (.cells news.toArray 399)) y)(k3:m=g\/(x.alloc (.cells news.toArray 399)).heap.size<=m):
 bO w b B10 s tx kind B FL n (y.setCell ⟨B10,4,none⟩ (.slice (some ⟨m,0,none⟩) (a.length+1) d)):=by
 obtain⟨h1,h2,h3,h4,h5,h6,h7,h8,h9,D,O,Q,R,E⟩:=H;have x0:=E.size;have x1:=M.size;have x2:z.heap.size<=x.heap.size:=N.size;have Y:=Z.size;rw[EX]at Y k3;have p:(y.setCell ⟨B10,4,none⟩ (.slice (some ⟨m,0,none⟩) (a.length+1) d)).heap.size=y.heap.size:=by simp[World.setCell]
 have hg:=h4.lt;have C:∀j,j≠B10->(y.setCell ⟨B10,4,none⟩ (.slice (some ⟨m,0,none⟩) (a.length+1) d)).heap[j]?=y.heap[j]?:=λj h=>heap_setCell (Ne.symm h);have L:∀j,j<x.heap.size->j≠g->y.heap[j]?=x.heap[j]?:=λj h W=>(Z.heap j (by rw[EX];omega) W).trans (IG h);have e3:∀j,j<z.heap.size->j≠b->x.heap[j]?=z.heap[j]?:=λj h V=>N.heap j h V;have e2:∀j,j<wr.heap.size->j≠b->z.heap[j]?=wr.heap[j]?:=M.heap;have l:∀j,j<wr.heap.size->j≠b->j≠g->y.heap[j]?=wr.heap[j]?:=λj a1 a2 a3=>(L j oa a3).trans ((e3 j oa a2).trans (e2 j a1 a2));refine⟨a++[K],J,m,d,vs++[news],T,?_,X,k1.keep (by rw[p];exact AD _) (C m oa),by simp;exact h5,ot,oa,oa,oa,⟨oa,by rw[p];omega,oa⟩,?_,?_,λi t v G I=>?_,?_⟩
 .have:=g5.lt;exact(C b oa).trans ((L b oa oa).trans g5)
 .have:=(O.keep (l B10 D.2.1 D.2.2 oa)).set4 (v:=.slice (some ⟨m,0,none⟩) (a.length+1) d);simpa using this
 .exact Q.keep ((C _ oa).trans (l _ oa oa oa))
 .by_cases hi:i<a.length
  .rw[BJ hi]at G;rw[BJ oa]at I;refine(R i t v G I).keep (by rw[p];omega) λj h A=>?_;exact⟨(C j h.2.1).trans (l j A oa h.2.2),h.1,h.2.1,oa⟩
  .have U:i=a.length:=by have:=(A3.1 G).1;simp at this;omega
   subst U;have e:t=K:=by simpa using G.symm
   have e':v=news:=by rw[<-h5]at I;simpa using I.symm
   subst e e';refine hT.keep (by rw[p];omega) λj h A=>?_;have h:z.heap.size<=j:=h;exact⟨(C j oa).trans (L j A oa),oa,oa,oa⟩
 .exact(((((E.trans M).drew).trans N).alloc _).under Z oa).set (.inr oa)
theorem AJK{wr w a:World}{b g cap:Nat}{vs:List (List Value)}{o:Go.Obj}(h:RowAt wr g cap vs)(s:b<a.heap.size)(l:g≠b)(e:Frm b wr w)(j:Frm b w.drew a):RowAt (a.alloc o) g cap vs:=by have m:=e.size;have p:w.heap.size<=a.heap.size:=j.size;have d:=h.lt;exact h.keep (by rw[EX];omega) ((IG oa).trans ((j.heap g (show g<w.heap.size by omega) l).trans (e.heap g d l)))
theorem AJL(w:World)(news:List Value)(j:Nat)(u:Value)(h:news[j]?=some u):(w.alloc (.cells news.toArray 399)).cell? ⟨w.heap.size,j,none⟩=some u:=by have:=MH w (.cells news.toArray 399);simp only[World.cell?,this];simpa using h
theorem A6G(hN:NC)(b g:Nat)(s word:ByteArray)(kind:Int)(A:PF)(X:O_ s b g A)(m:Nat)(hm:m<=4500)(r:RS)(F)(w:World)(hs:s.size<=4000)(x3:r.en<=s.size)(hr:RdAt w b s r)
 (C:J2 s kind word A m r=some F):
 Calls Tryz.prog 367 #[.pointer (some ⟨b,0,none⟩),.int .i64 kind,.string word,.func (.func g) #[.pointer (some ⟨b,0,none⟩)] #[]] w (OY w b s F (WW w.heap.size)):=by
 have a3:=tf;have HN:=Lib.hid hN;have HR:=Lib.hid hr;have HO:=Lib.hid X;have HF:=Lib.hid C;have hb:b<w.heap.size:=hr.lt;clear hN hr X C;cases h1:A r with
 |none=>have:=HF.out;unfold J2 at this;rw[h1]at this;cases this
 |some F1=>
  have hc:=λ(W:World) (hW:RdAt W b s r)=>HO.out.2.1 W r F1 hW x3 h1;have HC:=Lib.hid hc;clear hc;have hE:=HO.out.1;cases F1 with
  |error e=>
   obtain⟨ea,ec⟩:=e;have HF2:=Lib.hid (show F=.error (ea,ec) by have:=HF.out;unfold J2 at this;rw[h1]at this;exact(A2 this).symm)
   clear h1;go_enter Tryz.func367,Tryz.ntmps367
   go_wp2_with (refine(HC.out _ (HR.out.alloc _)).mono ?_;intro e I H;obtain⟨rfl,l⟩:=H;have G2:=Lib.hid l;clear l)
   exact⟨rfl,JS HF2.out (((Frm.refl b w).alloc _).trans G2.out)⟩
  |ok tr=>
   obtain⟨t,en,k,tx,T,tg,op⟩:=tr;by_cases p:k≠2\/tx≠word
   .have HF2:=Lib.hid (show F=.ok (t,⟨en,k,tx,T,tg,op⟩) by have:=HF.out;unfold J2 at this;rw[h1]at this;simp only at this;rw[if_pos p]at this;exact(A2 this).symm)
    clear h1;have a2:(k==2)=false/\(k !=2)=true\/k=2/\(tx.toList==word.toList)=false/\(tx.toList !=word.toList)=true:=by
     by_cases hk:k=2
     .have L:tx≠word:=p.resolve_left (λh=>h hk);have e1:(tx.toList==word.toList)=false:=by rw[zW];simp[L]
      exact .inr ⟨hk,e1,by rw[bne,e1];rfl⟩
     .exact .inl ⟨by simp[hk],by simp[hk]⟩
    clear p;rcases a2 with⟨k1,k2⟩|⟨rfl,k1,k2⟩
    all_goals
     go_enter Tryz.func367,Tryz.ntmps367
     go_wp2_with fail
     refine(HC.out _ (HR.out.alloc _)).mono ?_;intro e I H;obtain⟨v,rfl,⟨ak,an,al,ax,so,sn,sc,rfl,L⟩,z,l⟩:=H;have HT:=Lib.hid L;have G1:=Lib.hid z;have G2:=Lib.hid l;obtain⟨q0,q1,q2,q3,q4,q5,q6,qf⟩:=z.cell;simp only at q1 q2 q3 q4 q5 q6;have a0:=z.lt;have y5:w.heap.size<I.heap.size:=by have:=l.size;simp at this;omega
     have⟨r0,r1,r2,r3,r4,p0,p1,p2,p3,p4⟩:=QH hb l;clear l z L qf
     go_wp2_with fail
     have F8:=L_ (w:=I) (g:=w.heap.size) (a':=.int .i64 ak) (b':=.string an) (c':=.bool al) (d':=.string ax) (e':=.slice so sn sc)|>.alloc (.cells #[.int .i64 ak,.string an,.bool al,.string ax,.slice so sn sc] 399);have Fb:=(((Frm.refl b w).alloc _).trans G2.out).under F8 (AD _);refine bodyPost_ret (v:=.agg #[.int .i64 ak,.string an,.bool al,.string ax,.slice so sn sc]) (by simp[results,Tryz.results367,go_sem,r0,r1,r2,r3,r4,y5]) rfl (O5 HF2.out ⟨ak,an,al,ax,so,sn,sc,rfl,HT.out.keep F8.size λj hj h4=>?_⟩ (G1.out.frm F8 oa) Fb);have hj:(w.alloc _).heap.size<=j:=hj;simp at hj;exact⟨F8.heap j h4 oa,by show w.heap.size<=j;omega⟩
   .obtain⟨rfl,rfl⟩:k=2/\tx=word:=by rw[not_or]at p;exact⟨Decidable.not_not.1 p.1,Decidable.not_not.1 p.2⟩
    have HF1:=Lib.hid (show (match K8 s tx A m [t] ⟨en,2,tx,T,tg,op⟩ with
     |none=>none
     |some (.error e)=>some (.error e)
     |some (.ok (y,r''))=>some (.ok (.node kind ⟨#[]⟩ false ⟨#[]⟩ y,r'')))=some F by
     have:=HF.out;unfold J2 at this;rw[h1]at this;simp only at this;rw[if_neg p]at this;exact this)
    clear p;have k1:(tx.toList==tx.toList)=true:=oh;have k2:(tx.toList !=tx.toList)=false:=oh;go_enter Tryz.func367,Tryz.ntmps367
    go_wp2_with fail
    refine(HC.out _ (HR.out.alloc _)).mono ?_;intro e I H;obtain⟨v,rfl,⟨ak,an,al,ax,so,sn,sc,rfl,L⟩,z,l⟩:=H;have HT:=Lib.hid L;have G1:=Lib.hid z;have G2:=Lib.hid l;obtain⟨q0,q1,q2,q3,q4,q5,q6,qf⟩:=z.cell;simp only at q1 q2 q3 q4 q5 q6;have a0:=z.lt;have y5:w.heap.size<I.heap.size:=by have:=l.size;simp at this;omega
    have⟨r0,r1,r2,r3,r4,p0,p1,p2,p3,p4⟩:=QH hb l;clear l z L qf
    go_wp2_with fail
    obtain⟨FL,x0⟩:∃FL,K8 s tx A m [t] ⟨en,2,tx,T,tg,op⟩=some FL:=by
     cases h:K8 s tx A m [t] ⟨en,2,tx,T,tg,op⟩with
     |none=>have:=HF1.out;rw[h]at this;cases this
     |some FL=>exact⟨FL,rfl⟩
    have HL:=Lib.hid x0;clear x0;have x5:=HO.out.2.2 r t _ h1 x3;have HNE:=Lib.hid x5;clear x5 h1
    go_loopw [35] (λ_ wr=>∃q,bO w b (I.heap.size+1+1) s tx kind A FL q wr) (λ_ wr=>WX (bO w b (I.heap.size+1+1) s tx kind A FL) wr)
    case atStart=>exact⟨m,AJI hb G1.out G2.out HT.out HL.out HNE hm⟩
    case round=>
     have⟨y,r',g',U,vs,D⟩:=AJG hrel;have HRel:=Lib.hid hrel;clear hrel;have HRR:=Lib.hid D;obtain⟨n,hn⟩:∃n,WX (bO w b (I.heap.size+1+1) s tx kind A FL) wr=n:=⟨_,rfl⟩;have a:=D.lf;rw[hn]at a;have HM:=Lib.hid hn;cases n with
     |zero=>cases a
     |succ n=>
     have B:=A6C HN.out b s tx r' wr hs D.en D.rd;obtain⟨o0,o1,o2,o3,o4,u0,u1,u2,u3,u4⟩:=D.out;have d:=D.b10;clear D hn;unfold K8 at a;cases hI:IU s tx r' with
     |error e=>
      obtain⟨ea,ec⟩:=e;rw[hI]at a B;have HFL:=Lib.hid (A2 a);have HI:=Lib.hid B;clear a B hI
      go_wp2_with fail
      refine HI.out.mono ?_;intro e J H;obtain⟨rfl,l⟩:=H;have C:=HF1.out;rw[HL.out,<-HFL.out]at C;exact⟨rfl,JS (A2 C).symm (HRR.out.frm.trans l)⟩
     |ok x=>
      obtain⟨bb,Z,h5,h8,Y,h7,h6⟩:=x;cases bb with
      |false=>
       rw[hI]at a B;have HFL:=Lib.hid (A2 a);have HI:=Lib.hid B;clear a B hI
       go_wp2_with fail
       refine HI.out.mono ?_;intro e J H;obtain⟨v,rfl,rfl,z,l⟩:=H;have G:=HRR.out.frm;have R:=HRR.out.row;have hl:=HRR.out.len;have h3:=HRR.out.g8;have a1:=HRR.out.gb;have x4:=HRR.out.g10;have⟨o0,o1,o2,o3,o4,u0,u1,u2,u3,u4⟩:=HRR.out.out.keep (l.heap _ d.2.1 d.2.2);have⟨z0,z1,z2,z3,z4,y0,y1,y2,y3,y4⟩:=HRR.out.res.keep (l.heap _ (by have:=G.size;omega) oa);have z9:w.heap.size<J.heap.size:=by have:=l.size;omega
       have E:I.heap.size+1+1<J.heap.size:=by have:=l.size;omega
       have G3:=Lib.hid z;have G4:=Lib.hid l;have HFr:=Lib.hid G;have HRow:=Lib.hid R;have HLen:=Lib.hid hl;clear z l G R hl
       go_wp2_with fail
       have F8:=L_ (w:=J) (g:=w.heap.size) (a':=.int .i64 kind) (b':=.string ⟨#[]⟩) (c':=.bool false) (d':=.string ⟨#[]⟩) (e':=.slice (some ⟨g',0,none⟩) y.length U);have Fb:=(HFr.out.trans G4.out).under F8 (AD _);have C:F=.ok (.node kind ⟨#[]⟩ false ⟨#[]⟩ y,⟨Z,h5,h8,Y,h7,h6⟩):=by have C:=HF1.out;rw[HL.out,<-HFL.out]at C;exact(A2 C).symm
       have N:∀j,w.heap.size<j->j<wr.heap.size->_=wr.heap[j]?:=λj h1 V=>(F8.heap j (AO V G4.out.size) oa).trans (G4.out.heap j V oa);refine bodyPost_ret (v:=.agg #[.int .i64 kind,.string ⟨#[]⟩,.bool false,.string ⟨#[]⟩,.slice (some ⟨g',0,none⟩) y.length U]) (by simp[results,Tryz.results367,go_sem,z0,z1,z2,z3,z4,z9]) rfl (O5 C ⟨kind,_,false,_,_,_,_,rfl,?_⟩ (G3.out.frm F8 oa) Fb);have Q:=HRow.out.keep (AM G4.out.size F8.size) (N g' h3 HRow.out.lt);refine .node kind ⟨#[]⟩ false ⟨#[]⟩ y g' U vs (Nat.le_of_lt h3) Q.lt (by have:=Q.le;have:=HLen.out;omega) HLen.out Q.cells λi t v L hv=>?_;exact(HRR.out.trs i t v L hv).keep (AM G4.out.size F8.size) λj hj h4=>⟨N j hj.1 h4,Nat.le_of_lt hj.1⟩
      |true=>
       rw[hI]at a B;simp only at a;have M:=U4 hI HRR.out.en;simp only at M;have HI:=Lib.hid B;clear B hI;cases V:A ⟨Z,h5,h8,Y,h7,h6⟩with
       |none=>rw[V]at a;cases a
       |some F2=>
        rw[V]at a;have G:=HRR.out.frm;have R:=HRR.out.row;have hl:=HRR.out.len;have h3:=HRR.out.g8;have a1:=HRR.out.gb;have x4:=HRR.out.g10;have HFr:=Lib.hid G;have HRow:=Lib.hid R;have HLen:=Lib.hid hl;clear G R hl;have x1:=λ(W:World) (hW:RdAt W b s ⟨Z,h5,h8,Y,h7,h6⟩)=>HO.out.2.1 W _ F2 hW M V;have HC2:=Lib.hid x1;clear x1;cases F2 with
        |error e2=>
         obtain⟨ea,ec⟩:=e2;have HFL:=Lib.hid (A2 a);clear a
         go_wp2_with fail
         refine HI.out.mono ?_;intro e J H;obtain⟨v,rfl,rfl,z,l⟩:=H;have⟨o0,o1,o2,o3,o4,u0,u1,u2,u3,u4⟩:=HRR.out.out.keep (l.heap _ d.2.1 d.2.2);have E:I.heap.size+1+1<J.heap.size:=by have:=l.size;omega
         have G3:=Lib.hid z;have G4:=Lib.hid l;clear z l
         go_wp2_with fail
         refine wp_region_any oe ?_;change wpAny _ _ _ _ _ _ _ (World.drew _);refine wpAny_take (i:=0) (v:=?_) rfl oe oe oe (λ_ _ _ h=>h) (Or.inl ⟨by rfl,?_⟩) ?_;rotate_left;(focus (intro w;go_simp;try with_reducible rfl));refine wpAny_take (i:=2) (v:=?_) rfl oe oe oe (λ_ _ _ h=>h) (Or.inl ⟨by rfl,?_⟩) ?_;rotate_left;(focus (intro w;go_simp;try with_reducible rfl));refine wpAny_ready (rs:=[1,3]) oe oh ?_
         have C:F=.error (ea,ec):=by have C:=HF1.out;rw[HL.out,<-HFL.out]at C;exact(A2 C).symm
         refine AllReady.cons rfl (λK hK=>?_) (AllReady.cons rfl (λK hK=>?_) AllReady.nil)
         .go_simp
          refine hK _ _ ?_;refine wpAny_ready (rs:=[3]) oe oh ?_;refine AllReady.cons rfl (λK hK=>?_) AllReady.nil;refine A6F rfl (.tmp 38) rfl (by simp[Act.eval,Act.put]) hE (HC2.out J.drew G3.out) ?_;intro w3 g3;exact⟨rfl,JS C ((HFr.out.trans G4.out.drew).trans g3)⟩
         .refine A6F rfl (.tmp 38) rfl (by simp[Act.eval,Act.put]) hE (HC2.out J.drew G3.out) ?_;intro w3 g3;exact⟨rfl,JS C ((HFr.out.trans G4.out.drew).trans g3)⟩
        |ok x2=>
         obtain⟨t2,r3⟩:=x2;simp only at a;have HNE2:=Lib.hid (HO.out.2.2 _ _ _ V M);have HLF:=Lib.hid a;clear a V
         go_wp2_with fail
         refine HI.out.mono ?_;intro e J H;obtain⟨v,rfl,rfl,z,l⟩:=H;have⟨o0,o1,o2,o3,o4,u0,u1,u2,u3,u4⟩:=HRR.out.out.keep (l.heap _ d.2.1 d.2.2);have E:I.heap.size+1+1<J.heap.size:=by have:=l.size;omega
         have G3:=Lib.hid z;have G4:=Lib.hid l;clear z l
         go_wp2_with fail
         go_region_law (
          first
          | (refine AJF rfl (.tmp 38) rfl (by simp [Act.eval,Act.put]) hE (HC2.out J.drew G3.out) ?_
             intro y6 y8 y7 y9 a6 a5 a4 w3 L z l;have⟨o0,o1,o2,o3,o4,u0,u1,u2,u3,u4⟩:=(HRR.out.out.keep (G4.out.heap _ d.2.1 d.2.2)).keep (l.heap _ E d.2.2);have h9:I.heap.size+1+1<w3.heap.size:=by have:=l.size;have:J.drew.heap.size=J.heap.size:=rfl;omega
             have HT2:=Lib.hid L;have G5:=Lib.hid z;have G6:=Lib.hid l;clear L z l)
          | (refine AJE (vs:=vs) (g:=g') (cap:=U) (n:=y.length) (ab:=w3.heap.size) (news:=[.int .i64 y6,.string y8,.bool y7,.string y9,.slice a6 a5 a4]) rfl (.tmp 37) (.tmp 40) rfl (by simp [Act.eval,Act.put]) (by simp [Act.eval,Act.put]) HLen.out ?hr ?hbig ?hn ?h1 ?ha ?_
             case hr=>exact AJK HRow.out (by have:=G6.out.size;have:=G5.out.lt;omega) HRR.out.gb G4.out G6.out
             case hbig=>have:=HRR.out.few;have:=HLen.out;omega
             case hn=>rfl
             case h1=>exact HT2.out.one
             case ha=>exact AJL _ _
             intro g4 a7 w4 k1 k2 k3;have a9:I.heap.size+1+1<w4.heap.size:=by have:=k2.size;rw[EX]at this;omega
             obtain⟨o0,o1,o2,o3,o4,u0,u1,u2,u3,u4⟩:=((HRR.out.out.keep (G4.out.heap _ d.2.1 d.2.2)).keep (G6.out.heap _ E d.2.2)).keep ((k2.heap _ (by rw[EX];omega) (Ne.symm HRR.out.g10)).trans (IG h9));have K1:=Lib.hid k1;have K2:=Lib.hid k2;have K3:=Lib.hid k3;clear k1 k2 k3))
         all_goals
          go_wp2_with fail
          have O:=AJJ hb (HM.out▸HRR.out) G4.out G5.out G6.out HT2.out HLF.out HNE2.out K1.out K2.out K3.out
          go_roundw
          case rel=>exact⟨n,O⟩
          case measure=>have a8:=AJH O;rw[HM.out];omega
theorem o6{s:ByteArray}{r b:RS}{x:ByteArray}(h:J1 s r=.ok (x,b))(a:r.en<=s.size):b.en<=s.size:=by
 unfold J1 at h;split at h
 .cases h
 .split at h
  .next d=>cases h;exact ND d a
  .cases h
theorem AJM{s word:ByteArray}{d:PF}(l:∀(r:RS) (t:Tr) (b:RS),d r=some (.ok (t,b))→r.en≤s.size→b.en≤s.size):
 ∀(m:Nat) (a:List Tr) (r:RS) (k:List Tr) (b:RS),K8 s word d m a r=some (.ok (k,b))->r.en<=s.size->b.en<=s.size:=by
 intro m;induction m with
 |zero=>intro a r k b h;cases h
 |succ m p=>
  intro a r k b h e;unfold K8 at h;split at h
  .cases h
  .next j=>cases h;exact U4 j e
  grind[U4]
theorem A6H{s word:ByteArray}{kind:Int}{a:PF}(e:∀(r:RS) (t:Tr) (b:RS),a r=some (.ok (t,b))->r.en<=s.size->b.en<=s.size){m:Nat}{r b:RS}{t:Tr}
 (h:J2 s kind word a m r=some (.ok (t,b)))(d:r.en<=s.size):b.en<=s.size:=by
 grind[J2,AJM]
theorem A6I(N:NC)(b:Nat)(s:ByteArray)(x:PF)(a:O_ s b 381 x)(m:Nat)(R:m<=4500)(T:s.size<=4000):O_ s b 368 (J2 s 2 ⟨#[65,78,68]⟩ x m):=by
 refine⟨λ_ _=>rfl,λw r F y p M=>?_,λr t U h p=>A6H a.2.2 h p⟩;have G:=tf;have d:=A6G N b 381 s ⟨#[65,78,68]⟩ 2 x a m R r F (w.alloc (.cells #[.int .i64 0,.string ⟨#[]⟩,.bool false,.string ⟨#[]⟩,.slice none 0 0] 399)) T p (y.alloc _) M;have HR:=Lib.hid y;have HRow:=Lib.hid d;have Q:b<w.heap.size:=y.lt;clear a N y d M;cases F with
 |error e=>
  obtain⟨ea,ec⟩:=e;go_enter Tryz.func368,Tryz.ntmps368
  go_wp2_with (refine HRow.out.mono ?_;intro e K D;obtain⟨rfl,l⟩:=D;have G2:=Lib.hid l;clear l)
  exact⟨rfl,JS rfl (((Frm.refl b w).alloc _).trans G2.out)⟩
 |ok tr=>
  obtain⟨t,U⟩:=tr;go_enter Tryz.func368,Tryz.ntmps368
  go_wp2_with fail
  refine HRow.out.mono ?_;intro e K D;obtain⟨v,rfl,⟨z,an,al,A,J,I,H,rfl,O⟩,L,l⟩:=D;have HT:=Lib.hid O;have G1:=Lib.hid L;have G2:=Lib.hid l;have E:w.heap.size<K.heap.size:=by have:=l.size;simp at this;omega
  have⟨V,W,X,Y,Z,p0,p1,p2,p3,p4⟩:=QH Q l;clear l L O
  go_wp2_with fail
  have F8:=L_ (w:=K) (g:=w.heap.size) (a':=.int .i64 z) (b':=.string an) (c':=.bool al) (d':=.string A) (e':=.slice J I H);have Fb:=(((Frm.refl b w).alloc _).trans G2.out).under F8 (AD _);refine bodyPost_ret (v:=.agg #[.int .i64 z,.string an,.bool al,.string A,.slice J I H]) (by simp[results,Tryz.results368,go_sem,V,W,X,Y,Z,E]) rfl (O5 rfl ⟨z,an,al,A,J,I,H,rfl,HT.out.keep F8.size λj B C=>?_⟩ (G1.out.frm F8 oa) Fb);have B:(w.alloc _).heap.size<=j:=B;simp at B;exact⟨F8.heap j C oa,oa⟩
theorem A6J(N:NC)(b:Nat)(s:ByteArray)(x:PF)(a:O_ s b 368 x)(m:Nat)(R:m<=4500)(T:s.size<=4000):O_ s b 336 (J2 s 3 ⟨#[79,82]⟩ x m):=by
 refine⟨λ_ _=>rfl,λw r F y p M=>?_,λr t U h p=>A6H a.2.2 h p⟩;have G:=tf;have d:=A6G N b 368 s ⟨#[79,82]⟩ 3 x a m R r F (w.alloc (.cells #[.int .i64 0,.string ⟨#[]⟩,.bool false,.string ⟨#[]⟩,.slice none 0 0] 399)) T p (y.alloc _) M;have HR:=Lib.hid y;have HRow:=Lib.hid d;have Q:b<w.heap.size:=y.lt;clear a N y d M;cases F with
 |error e=>
  obtain⟨ea,ec⟩:=e;go_enter Tryz.func336,Tryz.ntmps336
  go_wp2_with (refine HRow.out.mono ?_;intro e K D;obtain⟨rfl,l⟩:=D;have G2:=Lib.hid l;clear l)
  exact⟨rfl,JS rfl (((Frm.refl b w).alloc _).trans G2.out)⟩
 |ok tr=>
  obtain⟨t,U⟩:=tr;go_enter Tryz.func336,Tryz.ntmps336
  go_wp2_with fail
  refine HRow.out.mono ?_;intro e K D;obtain⟨v,rfl,⟨z,an,al,A,J,I,H,rfl,O⟩,L,l⟩:=D;have HT:=Lib.hid O;have G1:=Lib.hid L;have G2:=Lib.hid l;have E:w.heap.size<K.heap.size:=by have:=l.size;simp at this;omega
  have⟨V,W,X,Y,Z,p0,p1,p2,p3,p4⟩:=QH Q l;clear l L O
  go_wp2_with fail
  have F8:=L_ (w:=K) (g:=w.heap.size) (a':=.int .i64 z) (b':=.string an) (c':=.bool al) (d':=.string A) (e':=.slice J I H);have Fb:=(((Frm.refl b w).alloc _).trans G2.out).under F8 (AD _);refine bodyPost_ret (v:=.agg #[.int .i64 z,.string an,.bool al,.string A,.slice J I H]) (by simp[results,Tryz.results336,go_sem,V,W,X,Y,Z,E]) rfl (O5 rfl ⟨z,an,al,A,J,I,H,rfl,HT.out.keep F8.size λj B C=>?_⟩ (G1.out.frm F8 oa) Fb);have B:(w.alloc _).heap.size<=j:=B;simp at B;exact⟨F8.heap j C oa,oa⟩
theorem AJN{s:ByteArray}{e:PF}(m:∀(r:RS) (t:Tr) (a:RS),e r=some (.ok (t,a))->r.en<=s.size->a.en<=s.size){r a:RS}{t:Tr}(h:OS s e r=some (.ok (t,a)))(b:r.en<=s.size):a.en<=s.size:=by
 unfold OS at h;split at h
 .cases h
 .split at h
  .cases h
  .next h1=>
   split at h
   .cases h
   .cases h
   .next d=>
    have j:=m _ _ _ d (ND h1 b);split at h
    .cases h
    .split at h
     .cases h
     .next l=>cases h;exact ND l j
theorem A6K{s:ByteArray}{r b:RS}{x:Bool}(h:LO s r=.ok (x,b))(a:r.en<=s.size):b.en<=s.size:=by
 unfold LO at h;split at h
 .split at h
  .cases h
  .next h1=>cases h;exact ND h1 a
 .cases h;exact a
theorem A6L{s:ByteArray}{r b:RS}{x:ByteArray}(h:KO s r=.ok (x,b))(a:r.en<=s.size):b.en<=s.size:=by
 unfold KO at h;split at h
 .cases h
 .next h1=>cases h;exact U4 h1 a
 .next h1=>exact o6 h (U4 h1 a)
theorem AJO{s:ByteArray}{r b:RS}{t:Tr}(h:JC s r=.ok (t,b))(a:r.en<=s.size):b.en<=s.size:=by
 unfold JC at h;split at h
 .cases h
 .next h1=>
  split at h
  .cases h
  .next d=>
   split at h
   .cases h
   .next e=>cases h;exact A6L e (A6K d (o6 h1 a))
theorem RdAt.op{w:World}{b:Nat}{s:ByteArray}{en a:Nat}{k:Int}{tx:ByteArray}{tg:Bool}{op:Int}(h:RdAt w b s ⟨en,k,tx,a,tg,op⟩)(o2:Int):RdAt (w.setCell ⟨b,6,none⟩ (.int .i64 o2)) b s ⟨en,k,tx,a,tg,o2⟩:=by unfold RdAt at *;rw[JE h];rfl
theorem AJP{w w1 m p:World}{b:Nat}{o2 A:Int}{o o':Go.Obj}(B:b<w.heap.size)(g:Frm b ((w.setCell ⟨b,6,none⟩ (.int .i64 o2)).alloc o) w1)(y:Frm b w1 m)(a:Frm b ((m.setCell ⟨b,6,none⟩ (.int .i64 A)).alloc o') p):Frm b (w.alloc o) p:=by
 have h1:Frm b (w.alloc o) ((w.setCell ⟨b,6,none⟩ (.int .i64 o2)).alloc o):=by
  refine⟨by simp[World.setCell],λj z d=>?_,rfl,rfl,rfl⟩;rw[EX]at z;by_cases h:j<w.heap.size
  .rw[IG (by simp[World.setCell];exact h),IG h,heap_setCell (Ne.symm d)]
  .have e:j=w.heap.size:=oa;subst e;have s:=MH w o;have l:=MH (w.setCell ⟨b,6,none⟩ (.int .i64 o2)) o;have x:(w.setCell ⟨b,6,none⟩ (.int .i64 o2)).heap.size=w.heap.size:=by simp[World.setCell]
   rw[x]at l;rw[s,l]
 exact((((h1.trans g).trans y).set (.inl rfl)).alloc _).trans a
theorem AJQ{w l:World}{b:Nat}{j:Int}{a c d e f:Value}(m:b<w.heap.size)(g:Frm b ((w.setCell ⟨b,6,none⟩ (.int .i64 j)).alloc (.cells #[a,c,d,e,f] 399)) l):Five l w.heap.size a c d e f:=by
 have h:(w.setCell ⟨b,6,none⟩ (.int .i64 j)).heap.size=w.heap.size:=by simp[World.setCell]
 have:=QH (by rw[h];exact m) g;rwa[h]at this
theorem AJR(hN:NC)(b:Nat)(s:ByteArray)(e:PF)(he:O_ s b 336 e)(r:RS)(F)(w:World)(hs:s.size<=4000)(V:r.en<=s.size)(hr:RdAt w b s r)(hk:r.k=4)(l:OS s e r=some F):
 Calls Tryz.prog 381 #[.pointer (some ⟨b,0,none⟩)] w (OY w b s F (WW w.heap.size)):=by
 have y8:=tf;obtain⟨en,k,tx,y5,tg,op⟩:=r;simp only at hk;subst hk;have HR:=Lib.hid hr;have HN:=Lib.hid hN;have HE:=Lib.hid he;have hb:b<w.heap.size:=hr.lt;obtain⟨h0,h1,h2,h3,h4,h5,h6,hf⟩:=hr.cell;simp only at h1 h2 h3 h4 h5 h6;have z2:=hf 6;clear hf hr hN he;obtain⟨B,Z⟩:∃B,PZ (op+1)=B:=⟨_,rfl⟩;unfold OS at l;simp only[Z]at l;unfold PZ at Z;by_cases D:30<B
 .rw[if_pos D]at l;have l:=A2 l;subst l;have z3:¬B<=30:=oa;go_enter Tryz.func381,Tryz.ntmps381
  go_wp2_with (refine(WU _ _ _).mono ?_;intro e w' hh;obtain⟨rfl,K⟩:=hh;replace K:=K.symm;subst K)
  exact⟨rfl,JS rfl (((Frm.refl b w).set (.inl rfl)).alloc _)⟩
 .rw[if_neg D]at l;have z4:B<=30:=oa;have X:=HN.out b s ⟨en,4,tx,y5,tg,B⟩ ((w.setCell ⟨b,6,none⟩ (.int .i64 B)).alloc (.cells #[.int .i64 0,.string ⟨#[]⟩,.bool false,.string ⟨#[]⟩,.slice none 0 0] 399)) hs V ((HR.out.op B).alloc _);have HN1:=Lib.hid X;clear X;cases I:FQ s en B with
  |error a=>
   have HT:=Lib.hid I;rw[I]at l;have l:=A2 l;subst l;clear I;go_enter Tryz.func381,Tryz.ntmps381
   go_wp2_with (refine HN1.out.mono ?_;intro e A h;unfold IV at h;rw[HT.out]at h;obtain⟨rfl,d⟩:=h;have G2:=Lib.hid d;clear d)
   exact⟨rfl,JS rfl ((((Frm.refl b w).set (.inl rfl)).alloc _).trans G2.out)⟩
  |ok r2=>
   have HT:=Lib.hid I;rw[I]at l;simp only at l;have E:=ND I V;clear I;cases M:e r2 with
   |none=>rw[M]at l;cases l
   |some F2=>
    rw[M]at l;have hc:=λ(W:World) (hW:RdAt W b s r2)=>HE.out.2.1 W r2 F2 hW E M;have HC:=Lib.hid hc;clear hc;cases F2 with
    |error e2=>
     obtain⟨ea,ec⟩:=e2;have l:=A2 l;subst l;clear M;go_enter Tryz.func381,Tryz.ntmps381
     go_wp2_with fail
     refine HN1.out.mono ?_;intro e A h;unfold IV at h;rw[HT.out]at h;obtain⟨rfl,m,d⟩:=h;have p:=HC.out A m;have HC1:=Lib.hid p;have G2:=Lib.hid d;clear m d p
     go_wp2_with (refine HC1.out.mono ?_;intro e C h;obtain⟨rfl,d⟩:=h;have G3:=Lib.hid d;clear d)
     exact⟨rfl,JS rfl (((((Frm.refl b w).set (.inl rfl)).alloc _).trans G2.out).trans G3.out)⟩
    |ok x2=>
     obtain⟨t,H,k3,x5,R,h9,h8⟩:=x2;simp only at l;have G:=HE.out.2.2 _ _ _ M E;simp only at G;clear M;by_cases z:k3=5
     .subst z;rw[if_neg oh]at l;obtain⟨O,h7⟩:∃O,PZ (h8-1)=O:=⟨_,rfl⟩;simp only[h7]at l;unfold PZ at h7;have Y:=λ(C:World) (g:RdAt C b s ⟨H,5,x5,R,h9,h8⟩) (o:Go.Obj)=>HN.out b s ⟨H,5,x5,R,h9,O⟩ ((C.setCell ⟨b,6,none⟩ (.int .i64 O)).alloc o) hs G ((g.op O).alloc _);have HN2:=Lib.hid Y;clear Y;cases x:FQ s H O with
      |error a=>
       rw[x]at l;have l:=A2 l;subst l;have HT2:=Lib.hid x;clear x;go_enter Tryz.func381,Tryz.ntmps381
       go_wp2_with fail
       refine HN1.out.mono ?_;intro e A h;unfold IV at h;rw[HT.out]at h;obtain⟨rfl,m,d⟩:=h;have p:=HC.out A m;have HC1:=Lib.hid p;have G2:=Lib.hid d;have U:=m.lt;clear m d p
       go_wp2_with fail
       refine HC1.out.mono ?_;intro e C h;obtain⟨v,rfl,⟨Q,an,al,T,so,sn,sc,rfl,N⟩,m,d⟩:=h;obtain⟨q0,q1,q2,q3,q4,q5,q6,L⟩:=m.cell;simp only at q1 q2 q3 q4 q5 q6;have y9:=L 6;have J:=m.lt;have y:=HN2.out C m;have HC2:=Lib.hid y;have G3:=Lib.hid d;clear m d N L y
       go_wp2_with (refine(HC2.out _).mono ?_;intro e w3 h;unfold IV at h;rw[HT2.out]at h;obtain⟨rfl,d⟩:=h;have G4:=Lib.hid d;clear d)
       exact⟨rfl,JS rfl ((((((((Frm.refl b w).set (.inl rfl)).alloc _).trans G2.out).trans G3.out).set (.inl rfl)).alloc _).trans G4.out)⟩
      |ok r4=>
       rw[x]at l;have l:=A2 l;subst l;have HT2:=Lib.hid x;clear x;go_enter Tryz.func381,Tryz.ntmps381
       go_wp2_with fail
       refine HN1.out.mono ?_;intro e A h;unfold IV at h;rw[HT.out]at h;obtain⟨rfl,m,d⟩:=h;have p:=HC.out A m;have HC1:=Lib.hid p;have G2:=Lib.hid d;have U:=m.lt;clear m d p
       go_wp2_with fail
       refine HC1.out.mono ?_;intro e C h;obtain⟨v,rfl,⟨Q,an,al,T,so,sn,sc,rfl,N⟩,m,d⟩:=h;obtain⟨q0,q1,q2,q3,q4,q5,q6,L⟩:=m.cell;simp only at q1 q2 q3 q4 q5 q6;have y9:=L 6;have J:=m.lt;have y:=HN2.out C m;have HC2:=Lib.hid y;have G3:=Lib.hid d;have HT:=Lib.hid N;clear m d N L y
       go_wp2_with fail
       refine(HC2.out _).mono ?_;intro e w3 h;unfold IV at h;rw[HT2.out]at h;obtain⟨rfl,m,d⟩:=h;have Fa:Frm b (w.alloc (.cells #[.int .i64 0,.string ⟨#[]⟩,.bool false,.string ⟨#[]⟩,.slice none 0 0] 399)) w3:=AJP hb G2.out G3.out d;have⟨r0,r1,r2,r3,z1,p0,p1,p2,p3,p4⟩:=QH hb Fa;have a0:C.heap.size<w3.heap.size:=by have:=d.size;rw[EX]at this;simp[World.setCell]at this;omega
       have y7:w.heap.size<w3.heap.size:=by have:=Fa.size;rw[EX]at this;omega
       have⟨x0,x1,x2,x3,x4,y0,y1,y2,y3,y4⟩:=AJQ J d;have G4:=Lib.hid m;have G5:=Lib.hid d;have GA:=Lib.hid Fa;clear m d Fa
       go_wp2_with fail
       have F8:=L_ (w:=w3) (g:=w.heap.size) (a':=.int .i64 Q) (b':=.string an) (c':=.bool al) (d':=.string T) (e':=.slice so sn sc);have Fb:Frm b w _:=((Frm.refl b w).alloc _).trans GA.out|>.under F8 (AD _);refine bodyPost_ret (v:=.agg #[.int .i64 Q,.string an,.bool al,.string T,.slice so sn sc]) (by simp[results,Tryz.results381,go_sem,r0,r1,r2,r3,z1,y7]) rfl (O5 rfl ⟨Q,an,al,T,so,sn,sc,rfl,HT.out.keep (by have:=F8.size;omega) λj hj y6=>?_⟩ (G4.out.frm F8 oa) Fb);have hj:A.heap.size<=j:=hj;have z9:w.heap.size<A.heap.size:=by have:=G2.out.size;rw[EX]at this;simp[World.setCell]at this;omega
       refine⟨(F8.heap j oa oa).trans ((G5.out.heap j (by rw[EX];simp[World.setCell];omega) oa).trans ?_),by show w.heap.size<=j;omega⟩;rw[IG (by simp[World.setCell];exact y6),heap_setCell oa]
     .rw[if_pos z]at l;have l:=A2 l;subst l;have k5:(k3==5)=false:=by simp[z]
      have a1:(k3 !=5)=true:=by simp[z]
      clear z;go_enter Tryz.func381,Tryz.ntmps381
      go_wp2_with fail
      refine HN1.out.mono ?_;intro e A h;unfold IV at h;rw[HT.out]at h;obtain⟨rfl,m,d⟩:=h;have p:=HC.out A m;have HC1:=Lib.hid p;have G2:=Lib.hid d;have U:=m.lt;clear m d p
      go_wp2_with fail
      refine HC1.out.mono ?_;intro e C h;obtain⟨v,rfl,⟨Q,an,al,T,so,sn,sc,rfl,N⟩,m,d⟩:=h;obtain⟨q0,q1,q2,q3,q4,q5,q6,L⟩:=m.cell;simp only at q1 q2 q3 q4 q5 q6;have J:=m.lt;have G3:=Lib.hid d;clear m d N L
      go_wp2_with (refine(WU _ _ _).mono ?_;intro e w' hh;obtain⟨rfl,K⟩:=hh;replace K:=K.symm;subst K)
      exact⟨rfl,JS rfl ((((((Frm.refl b w).set (.inl rfl)).alloc _).trans G2.out).trans G3.out).alloc _)⟩
theorem AJS(hN:NC)(b:Nat)(s:ByteArray)(r:RS)(w:World)(hs:s.size<=4000)(x2:r.en<=s.size)(hr:RdAt w b s r)(hk:r.k≠4):
 Calls Tryz.prog 381 #[.pointer (some ⟨b,0,none⟩)] w (OY w b s (JC s r) (WW w.heap.size)):=by
 have y4:=tf;obtain⟨en,k,tx,E,tg,op⟩:=r;have k4:(k==4)=false:=by simpa using hk
 have HR:=Lib.hid hr;have HN:=Lib.hid hN;have hb:b<w.heap.size:=hr.lt;obtain⟨h0,h1,h2,h3,h4,h5,h6,hf⟩:=hr.cell;simp only at h1 h2 h3 h4 h5 h6;have x4:=A6D hN b s ⟨en,k,tx,E,tg,op⟩ (w.alloc (.cells #[.int .i64 0,.string ⟨#[]⟩,.bool false,.string ⟨#[]⟩,.slice none 0 0] 399)) hs x2 (hr.alloc _);have HN1:=Lib.hid x4;clear hf hr hN x4 hk;cases R:J1 s ⟨en,k,tx,E,tg,op⟩with
 |error e=>
  obtain⟨X,Y⟩:=e;have HA:=Lib.hid R;have HF:=Lib.hid (show JC s ⟨en,k,tx,E,tg,op⟩=.error (X,Y) by unfold JC;rw[R]);clear R;go_enter Tryz.func381,Tryz.ntmps381
  go_wp2_with (refine HN1.out.mono ?_;intro e z j;rw[HA.out]at j;obtain⟨rfl,d⟩:=j;have G2:=Lib.hid d;clear d)
  exact⟨rfl,JS HF.out (((Frm.refl b w).alloc _).trans G2.out)⟩
 |ok x=>
  obtain⟨n,p,k1,C,A,B,y⟩:=x;have HA:=Lib.hid R;have D:=o6 R x2;simp only at D;have hL:JC s ⟨en,k,tx,E,tg,op⟩=match LO s ⟨p,k1,C,A,B,y⟩with
   | .error e=>.error e
   | .ok (l,G)=>match KO s G with
    | .error e=>.error e
    | .ok (x,K)=>.ok (.node 1 n l x [],K):=by unfold JC;rw[R]<;>rfl
  have HL:=Lib.hid hL;clear R hL;by_cases j:k1=3/\B=true
  focus
   obtain⟨rfl,rfl⟩:=j;have x5:=λ(z:World) (g:RdAt z b s ⟨p,3,C,A,true,y⟩) (o:Go.Obj)=>HN.out b s ⟨p,3,C,A,true,y⟩ (z.alloc o) hs D (g.alloc _);have HN2:=Lib.hid x5;clear x5;have hP:LO s ⟨p,3,C,A,true,y⟩=match FQ s p y with| .error a=>.error (a,6)| .ok G=>.ok (true,G):=by unfold LO;rw[if_pos ⟨rfl,rfl⟩]<;>rfl
   have HP:=Lib.hid hP;clear hP;go_enter Tryz.func381,Tryz.ntmps381
   go_wp2_with fail
   refine HN1.out.mono ?_;intro e z j;rw[HA.out]at j;obtain⟨v,rfl,rfl,m,d⟩:=j;obtain⟨q0,q1,q2,q3,q4,q5,q6,qf⟩:=m.cell;simp only at q1 q2 q3 q4 q5 q6;have x0:=m.lt;have x1:=HN2.out z m;have HC2:=Lib.hid x1;have G1:=Lib.hid m;have G2:=Lib.hid d;clear m d qf x1
   go_wp2_with fail
   refine(HC2.out _).mono ?_;intro e L j;unfold IV at j;rcases hT:FQ s p y with a|G
   .rw[hT]at j;obtain⟨rfl,d⟩:=j;refine⟨rfl,JS (HL.out.trans (by rw[HP.out,hT])) ?_⟩;exact((((Frm.refl b w).alloc _).trans G2.out).alloc _).trans d
   have J:=ND hT D;rw[hT]at j;obtain⟨rfl,m,d⟩:=j;have G3:=Lib.hid m;obtain ⟨l,G4,HL2⟩:∃ l,Hid (Frm b (z.alloc (.cells #[.int .i64 1,.string n,.bool l,.string ⟨#[]⟩,.slice none 0 0] 399)) L)/\Hid (JC s ⟨en,k,tx,E,tg,op⟩=match KO s G with
    | .error e=>.error e
    | .ok (x,K)=>.ok (.node 1 n l x [],K)):=⟨true,Lib.hid d,Lib.hid (HL.out.trans (by rw[HP.out,hT]))⟩
   clear m d hT q0 q1 q2 q3 q4 q5 q6
   go_wp2_with fail
  rotate_left
  focus
   have hP:LO s ⟨p,k1,C,A,B,y⟩=.ok (false,⟨p,k1,C,A,B,y⟩):=by unfold LO;rw[if_neg j]
   have HL2:=Lib.hid (show JC s ⟨en,k,tx,E,tg,op⟩=match KO s ⟨p,k1,C,A,B,y⟩ with
    | .error e=>.error e
    | .ok (x,K)=>.ok (.node 1 n false x [],K)from HL.out.trans (by rw[hP]))
   have y3:(k1==3)=false\/k1=3/\B=false:=by
    by_cases h:k1=3
    .refine .inr ⟨h,?_⟩;cases B with
     |false=>rfl
     |true=>exact absurd ⟨h,rfl⟩ j
    .exact .inl (by simpa using h)
   clear hP j HL;obtain⟨G,M⟩:∃G:RS,⟨p,k1,C,A,B,y⟩=G:=⟨_,rfl⟩;rw[M]at HL2;rcases y3 with y7|⟨rfl,rfl⟩
   all_goals
    go_enter Tryz.func381,Tryz.ntmps381
    go_wp2_with fail
    refine HN1.out.mono ?_;intro e z j;rw[HA.out]at j;obtain⟨v,rfl,rfl,m,d⟩:=j;obtain⟨q0,q1,q2,q3,q4,q5,q6,qf⟩:=m.cell;simp only at q1 q2 q3 q4 q5 q6;have x0:=m.lt;have G1:=Lib.hid m;have G2:=Lib.hid d;clear m d qf
    go_wp2_with fail
    obtain⟨L,N⟩:∃L:World,z.alloc (.cells #[.int .i64 1,.string n,.bool false,.string ⟨#[]⟩,.slice none 0 0] 399)=L:=⟨_,rfl⟩;rw[N];obtain⟨l,G4⟩:∃l,l=false/\Hid (Frm b (z.alloc (.cells #[.int .i64 1,.string n,.bool l,.string ⟨#[]⟩,.slice none 0 0] 399)) L):=⟨false,rfl,Lib.hid (N▸Frm.refl b _)⟩;obtain⟨hl,G4⟩:=G4;rw[<-hl]at HL2;have J:G.en<=s.size:=by rw[<-M];exact D
    have G3:=Lib.hid (show RdAt L b s G by rw[<-M,<-N];exact G1.out.alloc _);clear M hl N q0 q1 q2 q3 q4 q5 q6 G1
  all_goals
   have Z:Five L z.heap.size (.int .i64 1) (.string n) (.bool l) (.string ⟨#[]⟩) (.slice none 0 0):=QH x0 G4.out;have h7:Five L w.heap.size (.int .i64 0) (.string ⟨#[]⟩) (.bool false) (.string ⟨#[]⟩) (.slice none 0 0):=(QH hb G2.out).keep ((G4.out.heap _ (by have:=G2.out.size;rw[EX]at *;omega) oa).trans (IG (by have:=G2.out.size;rw[EX]at *;omega)));have HF7:=Lib.hid Z;have HF8:=Lib.hid h7;have O:z.heap.size<L.heap.size:=by have:=G4.out.size;rw[EX]at this;omega
   have y0:w.heap.size<z.heap.size:=by have:=G2.out.size;rw[EX]at this;omega
   have Fb2:=Lib.hid (((((Frm.refl b w).alloc _).trans G2.out).alloc _).trans G4.out);have h8:=A6C HN.out b s ⟨#[87,73,84,72]⟩ G L hs J G3.out;have HI2:=Lib.hid h8;clear Z h7 h8;cases I:IU s ⟨#[87,73,84,72]⟩ G with
   |error e=>obtain⟨X,Y⟩:=e;have HI:=Lib.hid I;have HF:=Lib.hid (show JC s _=.error (X,Y)from HL2.out.trans (by unfold KO;rw[I]));clear I;refine HI2.out.mono ?_;intro e H j;rw[HI.out]at j;obtain⟨rfl,d⟩:=j;exact⟨rfl,JS HF.out (Fb2.out.trans d)⟩
   |ok x=>
    obtain⟨bb,K⟩:=x;have HI:=Lib.hid I;have x3:=U4 I J;cases bb with
    |false=>
     have HF:=Lib.hid (show JC s _=.ok (.node 1 n l ⟨#[]⟩ [],K)from HL2.out.trans (by unfold KO;rw[I]));clear I;refine HI2.out.mono ?_;intro e H j;rw[HI.out]at j;obtain⟨v,rfl,rfl,m,d⟩:=j;have⟨c0,c1,c2,c3,c4,d0,d1,d2,d3,d4⟩:=HF7.out.keep (d.heap _ O oa);have⟨r0,r1,T,U,r4,p0,p1,p2,p3,p4⟩:=HF8.out.keep (d.heap _ oa oa);have Q:z.heap.size<H.heap.size:=by have:=d.size;omega
     have y1:w.heap.size<H.heap.size:=by have:=d.size;omega
     have G5:=Lib.hid m;have G6:=Lib.hid d;clear m d
     go_wp2_with fail
     have F8:=L_ (w:=H) (g:=w.heap.size) (a':=.int .i64 1) (b':=.string n) (c':=.bool l) (d':=.string ⟨#[]⟩) (e':=.slice none 0 0);refine bodyPost_ret (v:=.agg #[.int .i64 1,.string n,.bool l,.string ⟨#[]⟩,.slice none 0 0]) (by simp[results,Tryz.results381,go_sem,r0,r1,T,U,r4,y1]) rfl (O5 HF.out ⟨1,n,l,⟨#[]⟩,none,0,0,rfl,.leaf _ _ _ _⟩ (G5.out.frm F8 oa) ((Fb2.out.trans G6.out).under F8 (AD _)))
    |true=>
     have h9:=λ(H:World) (g:RdAt H b s K)=>A6D HN.out b s K H hs x3 g;have HM2:=Lib.hid h9;clear h9;cases W:J1 s K with
     |error e=>
      obtain⟨X,Y⟩:=e;have HM:=Lib.hid W;have HF:=Lib.hid (show JC s _=.error (X,Y)from HL2.out.trans (by unfold KO;rw[I];simp only;rw[W]));clear I W;refine HI2.out.mono ?_;intro e H j;rw[HI.out]at j;obtain⟨v,rfl,rfl,m,d⟩:=j;have hm:=HM2.out H m;have HM3:=Lib.hid hm;have G6:=Lib.hid d;clear m d hm
      go_wp2_with fail
      refine HM3.out.mono ?_;intro e V j;rw[HM.out]at j;obtain⟨rfl,d⟩:=j;exact⟨rfl,JS HF.out ((Fb2.out.trans G6.out).trans d)⟩
     |ok x=>
      obtain⟨x,r4⟩:=x;have HM:=Lib.hid W;have HF:=Lib.hid (show JC s _=.ok (.node 1 n l x [],r4)from HL2.out.trans (by unfold KO;rw[I];simp only;rw[W]));clear I W;refine HI2.out.mono ?_;intro e H j;rw[HI.out]at j;obtain⟨v,rfl,rfl,m,d⟩:=j;have hm:=HM2.out H m;have HM3:=Lib.hid hm;have G6:=Lib.hid d;have Q:z.heap.size<H.heap.size:=by have:=d.size;omega
      clear m d hm
      go_wp2_with fail
      refine HM3.out.mono ?_;intro e V j;rw[HM.out]at j;obtain⟨v,rfl,rfl,m,d⟩:=j;have⟨c0,c1,c2,c3,c4,d0,d1,d2,d3,d4⟩:=(HF7.out.keep (G6.out.heap _ O oa)).keep (d.heap _ Q oa);have⟨r0,r1,T,U,y5,p0,p1,p2,p3,p4⟩:=(HF8.out.keep (G6.out.heap _ oa oa)).keep (d.heap _ oa oa);have y6:z.heap.size<V.heap.size:=by have:=d.size;omega
      have y2:w.heap.size<V.heap.size:=by have:=d.size;omega
      have G7:=Lib.hid m;have G8:=Lib.hid d;have y8:w.heap.size≠z.heap.size:=oa;clear m d
      go_wp2_with fail
      have F7:Frm z.heap.size V (V.setCell ⟨z.heap.size,3,none⟩ (.string x)):=(Frm.refl z.heap.size V).set (c:=z.heap.size) (i:=3) (v:=.string x) (.inl rfl);have F8:=L_ (w:=(V.setCell ⟨z.heap.size,3,none⟩ (.string x))) (g:=w.heap.size) (a':=.int .i64 1) (b':=.string n) (c':=.bool l) (d':=.string x) (e':=.slice none 0 0);refine bodyPost_ret (v:=.agg #[.int .i64 1,.string n,.bool l,.string x,.slice none 0 0]) (by simp[results,Tryz.results381,go_sem,r0,r1,T,U,y5,y2]) rfl (O5 HF.out ⟨1,n,l,x,none,0,0,rfl,.leaf _ _ _ _⟩ ((G7.out.frm F7 oa).frm F8 oa) ((((Fb2.out.trans G6.out).trans G8.out).under F7 (Nat.le_of_lt y0)).under F8 (AD _)))
theorem AJT(j:NC)(b:Nat)(s:ByteArray)(m:Nat)(x:m<=4500)(l:s.size<=4000):∀d,O_ s b 381 (N2 s m d):=by
 intro d;induction d with
 |zero=>exact⟨λ_ _=>rfl,λ_ _ _ _ _ h=>(oq),λ_ _ _ h=>(oq)⟩
 |succ d z=>
  have p:=A6J j b s _ (A6I j b s _ z m x l) m x l;refine⟨λ_ _=>rfl,λw r F y a e=>?_,λr t A h a=>?_⟩
  .unfold N2 at e;by_cases hk:r.k=4
   .rw[if_pos hk]at e;exact AJR j b s _ p r F w l a y hk e
   .rw[if_neg hk]at e;cases A2 e;exact AJS j b s r w l a y hk
  .unfold N2 at h;by_cases hk:r.k=4
   .rw[if_pos hk]at h;exact AJN p.2.2 h a
   .rw[if_neg hk]at h;exact AJO (A2 h) a
theorem AJU(h:NC)(b:Nat)(s:ByteArray)(m:Nat)(a:m<=4500)(e:s.size<=4000)(d:Nat):O_ s b 336 (P_ s m d):=
 A6J h b s _ (A6I h b s _ (AJT h b s m a e d) m a e) m a e
def Two(w:World)(g:Nat)(a b:Value):Prop:=w.cell? ⟨g,0,none⟩=some a/\w.cell? ⟨g,1,none⟩=some b/\w.frozen? ⟨g,0,none⟩=false/\w.frozen? ⟨g,1,none⟩=false
def A6M(c:Frame)(v:Value):Frame:={c with mode:=.panicking [{v:=v,recovered:=true}]}
theorem AJV(c:Frame)(cs:List Frame)(v:Value)(h:c.mode=.panicking [{v:=v,recovered:=false}]):recoverD (c::cs)=some (v,A6M c v::cs):=by simp[recoverD,h,A6M]
theorem AJW(W:World):W.drew.heap=W.heap:=rfl
theorem AJX(W:World):W.drew.os=W.os:=rfl
theorem AJY(W:World):W.drew.output=W.output:=rfl
theorem AJZ(W:World)(o:Go.Obj):(W.alloc o).os=W.os:=rfl
theorem AJ_(W:World)(o:Go.Obj):(W.alloc o).output=W.output:=rfl
theorem AJa(W:World)(a:Addr)(v:Value):(W.setCell a v).os=W.os:=rfl
theorem AJb(W:World)(a:Addr)(v:Value):(W.setCell a v).output=W.output:=rfl
section
variable{P:Program}{Q:Exit->Act->List Frame->World->Prop}{ops:Array Oper}{i:Nat}{rest:List Nat}{o:Oper}{a:Act}{cs cs':List Frame}{w w':World}{v:Value}
theorem NE(b:ops[i]?=some o)(e:Region.wanted o (yielded ops a.tmps)=true)(d:(execOp a.eval o).run P w=.ok (.value v) w')(h:wpOpsS P ops Q rest (a.put o.dst v) cs w'):wpOpsS P ops Q (i::rest) a cs w:=by simp only[wpOpsS,b,e,if_true,d];exact h
theorem A6N(b:ops[i]?=some o)(e:Region.wanted o (yielded ops a.tmps)=true)(d:(execOp a.eval o).run P w=.ok .skip w')(h:wpOpsS P ops Q rest (a.put o.dst undef) cs w'):wpOpsS P ops Q (i::rest) a cs w:=by simp only[wpOpsS,b,e,if_true,d];exact h
theorem AJc(d:ops[i]?=some o)(j:Region.wanted o (yielded ops a.tmps)=true)(e:(execOp a.eval o).run P w=.ok .recover w)(b:recoverD cs=some (v,cs'))(h:wpOpsS P ops Q rest (a.put o.dst v) cs' w):wpOpsS P ops Q (i::rest) a cs w:=by simp_all[wpOpsS,if_true]
theorem AJd(d:ops[i]?=some o)(j:Region.wanted o (yielded ops a.tmps)=true)(e:(execOp a.eval o).run P w=.ok .recover w)(b:recoverD cs=none)(h:wpOpsS P ops Q rest (a.put o.dst .nilIface) cs w):wpOpsS P ops Q (i::rest) a cs w:=by simp_all[wpOpsS,if_true]
end
end Go.Ev.Pv
