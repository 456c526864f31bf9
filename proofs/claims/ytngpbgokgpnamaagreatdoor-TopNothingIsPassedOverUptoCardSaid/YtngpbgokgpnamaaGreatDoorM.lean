/-
  Its next part.
-/
import Derived.Test.YtngpbgokgpnamaaGreatDoorJ
import Derived.IntWalk
set_option linter.all false
set_option maxRecDepth 1000000
set_option maxHeartbeats 16000000
namespace Go.Ev.Pv
open Go.Proofs Go.RowKit
attribute [local irreducible] wpOpsS
theorem AJw(hU:A6B)(b:Nat)(s:ByteArray)(en:Nat)(k:Int)(tx:ByteArray)(x0:Nat)(tg:Bool)(op:Int)(w:World)(hs:s.size<=4000)(Q:en<=s.size)
 (hr:RdAt w b s ⟨en,k,tx,x0,tg,op⟩):Calls Tryz.prog 335 #[.pointer (some ⟨b,0,none⟩)] w (IV w b s en op):=by
 have y1:=tf;have HR:=Lib.hid hr;have HU:=Lib.hid hU;have hb:b<w.heap.size:=hr.lt;obtain⟨h0,h1,h2,h3,h4,h5,h6,N⟩:=hr.cell;simp only at h1 h2 h3 h4 h5 h6;have f1:=N 1;have f2:=N 2;have f3:=N 3;have f4:=N 4;have f5:=N 5;clear N hr hU;have y:s.data.toList.length=s.size:=oh;have U:=zU (l:=s.data.toList) (k:=en) (by rw[y];exact Q);have R:=nZ (l:=s.data.toList) (k:=en);rw[y]at U;obtain⟨a,ha⟩:∃a,F4 s.data.toList en=a:=⟨_,rfl⟩;rw[ha]at U R;have HA:=Lib.hid ha;have HL:=Lib.hid y;clear ha y;go_enter Tryz.func335,Tryz.ntmps335;go_wp2
 go_loop [2] (λt=>∃k:Nat,en<=k/\k<=a/\t=.int .i64 k) (λt=>s.size-(RowKit.intOf t).toNat)
 case atStart=>exact⟨en,AD _,R,rfl⟩
 case round=>
  obtain⟨k,hk,x2,rfl⟩:=hrel;by_cases V:k<a
  .have X:k<s.size:=oa;have h8:=A67 HA.out hk V X;have M:=AJ4 h8;clear h8;have hd:((s[k].toNat:Int)==32)=true\/((s[k].toNat:Int)==32)=false/\((s[k].toNat:Int)==9)=true\/((s[k].toNat:Int)==32)=false/\((s[k].toNat:Int)==9)=false/\((s[k].toNat:Int)==10)=true:=by rcases M with M|M|M<;>rw[M]<;>decide
   clear M;rcases hd with c1|⟨c1,c2⟩|⟨c1,c2,c3⟩
   all_goals
    go_wp2;go_round
    case rel=>exact⟨k+1,oa,oa,by go_num⟩
    case measure=>simp[RowKit.intOf];omega
  .obtain rfl:k=a:=oa;clear V x2;by_cases B:k<s.size
   rotate_left
   ·
    obtain rfl:k=s.size:=oa;have J:((s.size:Int)==(en:Int))=true/\decide (s.size=en/\0<s.size)=decide (0<s.size)\/((s.size:Int)==(en:Int))=false/\decide (s.size=en/\0<s.size)=false:=by
     by_cases e:s.size=en
     .exact .inl ⟨by simp[e],by simp[e]⟩
     .exact .inr ⟨ot,by simp[e]⟩
    rcases J with⟨t1,K⟩|⟨t1,K⟩
    all_goals
     have HT:Hid (FQ s en op=.ok ⟨en,0,⟨#[]⟩,s.size,_,op⟩):=Lib.hid (by unfold FQ;rw[HA.out,if_pos rfl,K]);clear K;go_wp2;refine bodyPost_ret (v:=.tuple #[]) (by simp[results,Tryz.results335,go_sem]) rfl (o5 HT.out ?_ ?_)
     .refine RdAt.alloc ?_ _;exact JE (JE (JE (JE HR.out)))
     .exact((((Frm.refl b w).set (.inl rfl)).set (.inl rfl)).set (.inl rfl)).set (.inl rfl)|>.alloc _
   .have h9:=AJ3 Q HA.out B;obtain⟨n,hn⟩:∃n,JR s.data.toList k=n:=⟨_,rfl⟩;have h7:=A65 (l:=s.data.toList) (k:=k) (by rw[HL.out];omega);rw[HL.out,hn]at h7;have HN:=Lib.hid hn;clear hn;have⟨q1,q2,q3⟩:=AJ5 h9;clear h9;have J:((k:Int)==(en:Int))=true/\decide (k=en/\0<k)=decide (0<k)\/((k:Int)==(en:Int))=false/\decide (k=en/\0<k)=false:=by
     by_cases e:k=en
     .exact .inl ⟨by simp[e],by simp[e]⟩
     .exact .inr ⟨ot,by simp[e]⟩
    have y7:((k:Int)==(s.size:Int))=false:=ot;have Z:¬k=s.size:=oa
    have HT0:∀x,decide (k=en/\0<k)=x->FQ s en op=if n=0 then
     (if s[k]=43 then .ok ⟨k+1,3,⟨#[]⟩,k,x,op⟩
     else if s[k]=40 then .ok ⟨k+1,4,⟨#[]⟩,k,x,op⟩
     else if s[k]=41 then .ok ⟨k+1,5,⟨#[]⟩,k,x,op⟩
     else .error k)
     else if KN (s.extract k (k+n))=true then .ok ⟨k+n,2,RW (s.extract k (k+n)),k,x,op⟩
     else if H8 (s.extract k (k+n))=true then .ok ⟨k+n,1,s.extract k (k+n),k,x,op⟩
     else .error k:=by
     intro x hx;have hg:s.data.toList.getD k 0=s[k]:=by rw[AJ,A1 (by rw[HL.out];exact B)];exact gd _ B
     unfold FQ;rw[HA.out,if_neg Z,HN.out,hg,hx]
    have HT1:=Lib.hid HT0;clear HT0 Z;rcases J with⟨t1,K⟩|⟨t1,K⟩
    all_goals
     have HT2:=Lib.hid (HT1.out _ K);clear K;by_cases C:n=0
     .have H:=A69 (n:=n) HN.out oa;subst C;simp only[CE]at H;have hC:∀W,Calls Tryz.prog 363 #[.int .u8 (s[k].toNat:Int)] W λe A=>e=.returned (.bool false)/\W=A:=λW=>by rw[<-H];exact bN s[k] W
      have HC:=Lib.hid hC;clear hC H;have p:s[k]=43\/s[k]=40\/s[k]=41\/(s[k]≠43/\s[k]≠40/\s[k]≠41):=by
       by_cases h:s[k]=43
       .exact .inl h
       .by_cases z:s[k]=40
        .exact .inr (.inl z)
        .by_cases L:s[k]=41
         .exact .inr (.inr (.inl L))
         .exact .inr (.inr (.inr ⟨h,z,L⟩))
      rcases p with h|h|h|⟨h,z,L⟩
      focus
       have HT:=Lib.hid (show FQ s en op=.ok ⟨k+1,3,⟨#[]⟩,k,_,op⟩ by rw[HT2.out,if_pos rfl,if_pos h]);have D:((s[k].toNat:Int)==43)=true:=zV rfl h;clear h HT2
      rotate_left
      focus
       have HT:=Lib.hid (show FQ s en op=.ok ⟨k+1,4,⟨#[]⟩,k,_,op⟩ by rw[HT2.out,if_pos rfl,if_neg (by rw[h];decide),if_pos h]);have D:((s[k].toNat:Int)==43)=false:=by rw[h];rfl
       have O:((s[k].toNat:Int)==40)=true:=zV rfl h;clear h HT2
      rotate_left
      focus
       have HT:=Lib.hid (show FQ s en op=.ok ⟨k+1,5,⟨#[]⟩,k,_,op⟩ by rw[HT2.out,if_pos rfl,if_neg (by rw[h];decide),if_neg (by rw[h];decide),if_pos h]);have D:((s[k].toNat:Int)==43)=false:=by rw[h];rfl
       have O:((s[k].toNat:Int)==40)=false:=by rw[h];rfl
       have x1:((s[k].toNat:Int)==41)=true:=zV rfl h;clear h HT2
      rotate_left
      focus
       have HT:=Lib.hid (show FQ s en op=.error k by rw[HT2.out,if_pos rfl,if_neg h,if_neg z,if_neg L]);have D:((s[k].toNat:Int)==43)=false:=WV (d:=43) rfl h;have O:((s[k].toNat:Int)==40)=false:=WV (d:=40) rfl z;have x1:((s[k].toNat:Int)==41)=false:=WV (d:=41) rfl L;clear h z L HT2
      all_goals
       go_wp2
       go_loop [4] (λt=>t=.int .i64 0) (λt=>s.size)
       case atStart=>rfl
       case round=>
        subst hrel
        go_wp2_with (first|((with_reducible refine(HC.out _).mono ?_);rintro e A ⟨rfl,rfl⟩)|(refine(WU _ _ _).mono ?_;rintro e A ⟨rfl,rfl⟩))
        first
         |exact⟨rfl,A6A HT.out ((Frm.refl b w).alloc _)⟩
         | (refine bodyPost_end (v:=.tuple #[]) (by simp [results,Tryz.results335,go_sem]) rfl (o5 HT.out ?_ ?_)
            .refine RdAt.alloc ?_ _;exact JE (JE (JE (JE (JE HR.out))))
            .exact(((((Frm.refl b w).set (.inl rfl)).set (.inl rfl)).set (.inl rfl)).set (.inl rfl)).set (.inl rfl)|>.alloc _)
     .have y5:0<n:=oa;have y6:((n:Int)==0)=false:=ot;have T:∀m,∀hm:m<n,∀W,Calls Tryz.prog 363 #[.int .u8 ((s[k+m]'(oa)).toNat:Int)] W λe A=>e=.returned (.bool true)/\W=A:=by intro m hm W;have:=A68 (k:=m) HN.out hm oa;rw[<-this];exact bN _ W
      have HKK:=Lib.hid T;clear T;have p:KN (s.extract k (k+n))=true\/KN (s.extract k (k+n))=false/\H8 (s.extract k (k+n))=true\/KN (s.extract k (k+n))=false/\H8 (s.extract k (k+n))=false:=by
       cases h:KN (s.extract k (k+n))with
       |true=>exact .inl rfl
       |false=>
        cases z:H8 (s.extract k (k+n))with
        |true=>exact .inr (.inl ⟨rfl,rfl⟩)
        |false=>exact .inr (.inr ⟨rfl,rfl⟩)
      have x4:(s.extract k (k+n)).size<=4000:=ot;rcases p with h|⟨h,z⟩|⟨h,z⟩
      focus
       have HT:=Lib.hid (show FQ s en op=.ok ⟨k+n,2,RW (s.extract k (k+n)),k,_,op⟩ by rw[HT2.out,if_neg C,if_pos h]);have HU1:=Lib.hid (λW=>HU.out (s.extract k (k+n)) W h)
      rotate_left
      focus
       have HT:=Lib.hid (show FQ s en op=.ok ⟨k+n,1,s.extract k (k+n),k,_,op⟩ by rw[HT2.out,if_neg C,if_neg (by rw[h];exact Bool.false_ne_true),if_pos z])
      rotate_left
      focus
       have HT:=Lib.hid (show FQ s en op=.error k by rw[HT2.out,if_neg C,if_neg (by rw[h];exact Bool.false_ne_true),if_neg (by rw[z];exact Bool.false_ne_true)])
      all_goals
       clear HT2 C;have hW:=λW=>zS (s.extract k (k+n)) W;rw[h]at hW;have HW:=Lib.hid hW;have E:=λW=>zT (s.extract k (k+n)) W x4;try rw[z]at E
       have HNm:=Lib.hid E;clear h hW E;try clear z
       go_wp2
       go_loop [4] (λt=>∃m:Nat,m<=n/\t=.int .i64 m) (λt=>s.size-(RowKit.intOf t).toNat)
       case atStart=>exact⟨0,AS _,rfl⟩
       case round=>
        obtain⟨m,hm,rfl⟩:=hrel;by_cases Y:m<n
        .have y4:k+m<s.size:=oa
         go_wp2_with (refine(HKK.out m Y _).mono ?_;rintro e A ⟨rfl,rfl⟩)
         go_round
         case rel=>exact⟨m+1,oa,by go_num⟩
         case measure=>simp[RowKit.intOf];omega
        .obtain rfl:m=n:=oa;clear Y hm;have I:(∃l:k+m<s.size,Hid (∀W,Calls Tryz.prog 363 #[.int .u8 ((s[k+m]'l).toNat:Int)] W λe A=>e=.returned (.bool false)/\W=A))\/¬(k:Int)+(m:Int)<(s.size:Int):=by
          by_cases l:k+m<s.size
          .have x3:=A69 HN.out l;exact .inl ⟨l,λW=>by rw[<-x3];exact bN _ W⟩
          .exact .inr oa
         rcases I with⟨l,HC⟩|l;all_goals (first|(go_wp2_with ((with_reducible refine(HC.out _).mono ?_);rintro e A ⟨rfl,rfl⟩))|go_wp2)
         all_goals
          have s1:IntKind.i64.wrap ((k:Int)+(m:Int))=(k:Int)+(m:Int):=IntWalk.i64_in _ oa;have s2:(0:Int)<=(k:Int)+(m:Int):=oa;have s3:((k:Int)+(m:Int)).toNat=k+m:=oa;have s4:(k:Int)+(m:Int)<=(s.size:Int):=oa;have s6:k<=k+m:=oa;have s5:(k:Int)<=(k:Int)+(m:Int):=oa;go_region
         all_goals
          clear s1 s2 s3 s4 s5 s6
          go_wp2_with (first|((with_reducible refine(HW.out _).mono ?_);rintro e A ⟨rfl,rfl⟩)|((with_reducible refine(HNm.out _).mono ?_);rintro e A ⟨rfl,rfl⟩)|(refine(WU _ _ _).mono ?_;rintro e A ⟨rfl,rfl⟩))
          first
           |exact⟨rfl,A6A HT.out (((Frm.refl b w).alloc _).drew)⟩
           | (refine (HU1.out _).mono ?_
              rintro e w1 ⟨rfl,G⟩;have⟨y2,y3⟩:=AJ2 G;have HB:=Lib.hid G;clear G;go_wp2;have x5:RdAt w1 b s _:=(HB.out.block b ot).trans (RdAt.alloc HR.out _);refine bodyPost_end (v:=.tuple #[]) (by simp[results,Tryz.results335,go_sem]) rfl (o5 HT.out ?_ ?_)
              .have y0:=(heap_setCell (w:=(w1.setCell {block:=w.heap.size,off:=0} (Value.int IntKind.i64 2))) (b:=w.heap.size) (i:=1) (v:=Value.string (RW (s.extract k (k+m)))) (j:=b) oa).trans ((heap_setCell (w:=w1) (b:=w.heap.size) (i:=0) (v:=Value.int IntKind.i64 2) (j:=b) oa).trans x5);exact JE (JE (JE (JE (JE y0))))
              .exact(((((((((Frm.refl b w).alloc _).drew).below HB.out).set (.inr (AD _))).set (.inr (AD _))).set (.inl rfl)).set (.inl rfl)).set (.inl rfl)).set (.inl rfl)|>.set (.inl rfl))
           | (refine bodyPost_end (v:=.tuple #[]) (by simp [results,Tryz.results335,go_sem]) rfl (o5 HT.out ?_ ?_)
              .refine RdAt.alloc ?_ _;exact JE (JE (JE (JE (JE HR.out))))
              .exact(((((Frm.refl b w).set (.inl rfl)).set (.inl rfl)).set (.inl rfl)).set (.inl rfl)).set (.inl rfl)|>.alloc _|>.drew)
end Go.Ev.Pv
