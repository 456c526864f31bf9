/-
  Its next part.
-/
import Derived.Test.YtkmeffadhdmdhaaGreatDoorJ
import Derived.IntWalk
set_option linter.all false
set_option maxRecDepth 1000000
set_option maxHeartbeats 16000000
namespace Go.Ev.Pv
variable{s x word tx an ax:X3}{b k en g cap ab m sn sc:Nat}{w w' w'' w1 w2 w3 wx:X4}{v c d a' b' e:X2}{el:TypeId}{r r':RS}{l:KX UInt8}{S:Nat->Prop}{t:Tr}{vs:KX (KX X2)}{news:KX X2}{R:Nat->X4->Prop}{kind:Int}{FL:Except (Nat×Int) (KX Tr×RS)}{so:X1 Addr}{tmps:Array X2}{F:Except (Nat×Int) (Tr×RS)}
open Go.Proofs Go.RowKit
attribute [local irreducible] wpOpsS
theorem AKj(hU:A6w)(b:Nat)(s:X3)(en:Nat)(k:Int)(tx:X3)(h9:Nat)(tg:X5)(op:Int)(w:X4)(hs:s.size<=4000)(O:en<=s.size)
 (hr:PA w b s ⟨en,k,tx,h9,tg,op⟩):Calls Tryz.prog 297 #[.pointer (some ⟨b,0,none⟩)] w (J1 w b s en op):=by
 have y0:=tj;have HR:=Lib.hid hr;have HU:=Lib.hid hU;have hb:b<w.heap.size:=hr.lt;obtain⟨h0,h1,h2,h3,h4,h5,h6,M⟩:=hr.cell;simp only at h1 h2 h3 h4 h5 h6;have f1:=M 1;have f2:=M 2;have f3:=M 3;have f4:=M 4;have f5:=M 5;clear M hr hU;have y:s.data.toList.length=s.size:=oh;have T:=A0T (l:=s.data.toList) (k:=en) (by rw[y];exact O);have Q:=oN (l:=s.data.toList) (k:=en);rw[y]at T;obtain⟨a,ha⟩:∃a,FE s.data.toList en=a:=⟨_,rfl⟩;rw[ha]at T Q;have HA:=Lib.hid ha;have HL:=Lib.hid y;clear ha y;go_enter Tryz.func297,Tryz.ntmps297;go_wp2
 go_loop [2] (λt=>∃k:Nat,en<=k/\k<=a/\t=.int .i64 k) (λt=>s.size-(RowKit.intOf t).toNat)
 case atStart=>exact⟨en,AD _,Q,rfl⟩
 case round=>
  obtain⟨k,hk,x1,rfl⟩:=hrel;by_cases U:k<a
  .have V:k<s.size:=oa;have h7:=A6s HA.out hk U V;have L:=AJr h7;clear h7;have hd:((s[k].toNat:Int)==32)=true\/((s[k].toNat:Int)==32)=false/\((s[k].toNat:Int)==9)=true\/((s[k].toNat:Int)==32)=false/\((s[k].toNat:Int)==9)=false/\((s[k].toNat:Int)==10)=true:=by rcases L with L|L|L<;>rw[L]<;>decide
   clear L;rcases hd with c1|⟨c1,c2⟩|⟨c1,c2,c3⟩
   all_goals
    go_wp2;go_round
    case rel=>exact⟨k+1,oa,oa,by go_num⟩
    case measure=>simp[RowKit.intOf];omega
  .obtain rfl:k=a:=oa;clear U x1;by_cases A:k<s.size
   rotate_left
   ·
    obtain rfl:k=s.size:=oa;have I:((s.size:Int)==(en:Int))=true/\decide (s.size=en/\0<s.size)=decide (0<s.size)\/((s.size:Int)==(en:Int))=false/\decide (s.size=en/\0<s.size)=false:=by
     by_cases e:s.size=en
     .exact .inl ⟨by simp[e],by simp[e]⟩
     .exact .inr ⟨ot,by simp[e]⟩
    rcases I with⟨t1,J⟩|⟨t1,J⟩
    all_goals
     have HT:Hid (FV s en op=.ok ⟨en,0,⟨#[]⟩,s.size,_,op⟩):=Lib.hid (by unfold FV;rw[HA.out,if_pos rfl,J]);clear J;go_wp2;refine bodyPost_ret (v:=.tuple #[]) (by simp[results,Tryz.results297,go_sem]) rfl (oO HT.out ?_ ?_)
     .refine PA.alloc ?_ _;exact JL (JL (JL (JL HR.out)))
     .exact((((W3.refl b w).set (.inl rfl)).set (.inl rfl)).set (.inl rfl)).set (.inl rfl)|>.alloc _
   .have h8:=AJq O HA.out A;obtain⟨n,hn⟩:∃n,K4 s.data.toList k=n:=⟨_,rfl⟩;have Z:=A6q (l:=s.data.toList) (k:=k) (by rw[HL.out];omega);rw[HL.out,hn]at Z;have HN:=Lib.hid hn;clear hn;have⟨q1,q2,q3⟩:=AJs h8;clear h8;have I:((k:Int)==(en:Int))=true/\decide (k=en/\0<k)=decide (0<k)\/((k:Int)==(en:Int))=false/\decide (k=en/\0<k)=false:=by
     by_cases e:k=en
     .exact .inl ⟨by simp[e],by simp[e]⟩
     .exact .inr ⟨ot,by simp[e]⟩
    have y6:((k:Int)==(s.size:Int))=false:=ot;have Y:¬k=s.size:=oa
    have HT0:∀x,decide (k=en/\0<k)=x->FV s en op=if n=0 then
     (if s[k]=43 then .ok ⟨k+1,3,⟨#[]⟩,k,x,op⟩
     else if s[k]=40 then .ok ⟨k+1,4,⟨#[]⟩,k,x,op⟩
     else if s[k]=41 then .ok ⟨k+1,5,⟨#[]⟩,k,x,op⟩
     else .error k)
     else if KZ (s.extract k (k+n))=true then .ok ⟨k+n,2,SB (s.extract k (k+n)),k,x,op⟩
     else if HG (s.extract k (k+n))=true then .ok ⟨k+n,1,s.extract k (k+n),k,x,op⟩
     else .error k:=by
     intro x hx;have hg:s.data.toList.getD k 0=s[k]:=by rw[AH,A1 (by rw[HL.out];exact A)];exact gd _ A
     unfold FV;rw[HA.out,if_neg Y,HN.out,hg,hx]
    have HT1:=Lib.hid HT0;clear HT0 Y;rcases I with⟨t1,J⟩|⟨t1,J⟩
    all_goals
     have HT2:=Lib.hid (HT1.out _ J);clear J;by_cases B:n=0
     .have G:=A6u (n:=n) HN.out oa;subst B;simp only[CG]at G;have hC:∀W,Calls Tryz.prog 329 #[.int .u8 (s[k].toNat:Int)] W λe w'=>e=.returned (.bool false)/\W=w':=λW=>by rw[<-G];exact bQ s[k] W
      have HC:=Lib.hid hC;clear hC G;have p:s[k]=43\/s[k]=40\/s[k]=41\/(s[k]≠43/\s[k]≠40/\s[k]≠41):=by
       by_cases h:s[k]=43
       .exact .inl h
       .by_cases z:s[k]=40
        .exact .inr (.inl z)
        .by_cases K:s[k]=41
         .exact .inr (.inr (.inl K))
         .exact .inr (.inr (.inr ⟨h,z,K⟩))
      rcases p with h|h|h|⟨h,z,K⟩
      focus
       have HT:=Lib.hid (show FV s en op=.ok ⟨k+1,3,⟨#[]⟩,k,_,op⟩ by rw[HT2.out,if_pos rfl,if_pos h]);have C:((s[k].toNat:Int)==43)=true:=A0U rfl h;clear h HT2
      rotate_left
      focus
       have HT:=Lib.hid (show FV s en op=.ok ⟨k+1,4,⟨#[]⟩,k,_,op⟩ by rw[HT2.out,if_pos rfl,if_neg (by rw[h];decide),if_pos h]);have C:((s[k].toNat:Int)==43)=false:=by rw[h];rfl
       have N:((s[k].toNat:Int)==40)=true:=A0U rfl h;clear h HT2
      rotate_left
      focus
       have HT:=Lib.hid (show FV s en op=.ok ⟨k+1,5,⟨#[]⟩,k,_,op⟩ by rw[HT2.out,if_pos rfl,if_neg (by rw[h];decide),if_neg (by rw[h];decide),if_pos h]);have C:((s[k].toNat:Int)==43)=false:=by rw[h];rfl
       have N:((s[k].toNat:Int)==40)=false:=by rw[h];rfl
       have x0:((s[k].toNat:Int)==41)=true:=A0U rfl h;clear h HT2
      rotate_left
      focus
       have HT:=Lib.hid (show FV s en op=.error k by rw[HT2.out,if_pos rfl,if_neg h,if_neg z,if_neg K]);have C:((s[k].toNat:Int)==43)=false:=XA (d:=43) rfl h;have N:((s[k].toNat:Int)==40)=false:=XA (d:=40) rfl z;have x0:((s[k].toNat:Int)==41)=false:=XA (d:=41) rfl K;clear h z K HT2
      all_goals
       go_wp2
       go_loop [4] (λt=>t=.int .i64 0) (λt=>s.size)
       case atStart=>rfl
       case round=>
        subst hrel
        go_wp2_with (first|((with_reducible refine(HC.out _).mono ?_);rintro e w' ⟨rfl,rfl⟩)|(refine(X9 _ _ _).mono ?_;rintro e w' ⟨rfl,rfl⟩))
        first
         |exact⟨rfl,A6v HT.out ((W3.refl b w).alloc _)⟩
         | (refine bodyPost_end (v:=.tuple #[]) (by simp [results,Tryz.results297,go_sem]) rfl (oO HT.out ?_ ?_)
            .refine PA.alloc ?_ _;exact JL (JL (JL (JL (JL HR.out))))
            .exact(((((W3.refl b w).set (.inl rfl)).set (.inl rfl)).set (.inl rfl)).set (.inl rfl)).set (.inl rfl)|>.alloc _)
     .have y4:0<n:=oa;have y5:((n:Int)==0)=false:=ot;have R:∀m,∀hm:m<n,∀W,Calls Tryz.prog 329 #[.int .u8 ((s[k+m]'(oa)).toNat:Int)] W λe w'=>e=.returned (.bool true)/\W=w':=by intro m hm W;have:=A6t (k:=m) HN.out hm oa;rw[<-this];exact bQ _ W
      have HKK:=Lib.hid R;clear R;have p:KZ (s.extract k (k+n))=true\/KZ (s.extract k (k+n))=false/\HG (s.extract k (k+n))=true\/KZ (s.extract k (k+n))=false/\HG (s.extract k (k+n))=false:=by
       cases h:KZ (s.extract k (k+n))with
       |true=>exact .inl rfl
       |false=>
        cases z:HG (s.extract k (k+n))with
        |true=>exact .inr (.inl ⟨rfl,rfl⟩)
        |false=>exact .inr (.inr ⟨rfl,rfl⟩)
      have x3:(s.extract k (k+n)).size<=4000:=ot;rcases p with h|⟨h,z⟩|⟨h,z⟩
      focus
       have HT:=Lib.hid (show FV s en op=.ok ⟨k+n,2,SB (s.extract k (k+n)),k,_,op⟩ by rw[HT2.out,if_neg B,if_pos h]);have HU1:=Lib.hid (λW=>HU.out (s.extract k (k+n)) W h)
      rotate_left
      focus
       have HT:=Lib.hid (show FV s en op=.ok ⟨k+n,1,s.extract k (k+n),k,_,op⟩ by rw[HT2.out,if_neg B,if_neg (by rw[h];exact Bool.false_ne_true),if_pos z])
      rotate_left
      focus
       have HT:=Lib.hid (show FV s en op=.error k by rw[HT2.out,if_neg B,if_neg (by rw[h];exact Bool.false_ne_true),if_neg (by rw[z];exact Bool.false_ne_true)])
      all_goals
       clear HT2 B;have hW:=λW=>A0R (s.extract k (k+n)) W;rw[h]at hW;have HW:=Lib.hid hW;have D:=λW=>A0S (s.extract k (k+n)) W x3;try rw[z]at D
       have HNm:=Lib.hid D;clear h hW D;try clear z
       go_wp2
       go_loop [4] (λt=>∃m:Nat,m<=n/\t=.int .i64 m) (λt=>s.size-(RowKit.intOf t).toNat)
       case atStart=>exact⟨0,AT _,rfl⟩
       case round=>
        obtain⟨m,hm,rfl⟩:=hrel;by_cases X:m<n
        .have y3:k+m<s.size:=oa
         go_wp2_with (refine(HKK.out m X _).mono ?_;rintro e w' ⟨rfl,rfl⟩)
         go_round
         case rel=>exact⟨m+1,oa,by go_num⟩
         case measure=>simp[RowKit.intOf];omega
        .obtain rfl:m=n:=oa;clear X hm;have H:(∃l:k+m<s.size,Hid (∀W,Calls Tryz.prog 329 #[.int .u8 ((s[k+m]'l).toNat:Int)] W λe w'=>e=.returned (.bool false)/\W=w'))\/¬(k:Int)+(m:Int)<(s.size:Int):=by
          by_cases l:k+m<s.size
          .have x2:=A6u HN.out l;exact .inl ⟨l,λW=>by rw[<-x2];exact bQ _ W⟩
          .exact .inr oa
         rcases H with⟨l,HC⟩|l;all_goals (first|(go_wp2_with ((with_reducible refine(HC.out _).mono ?_);rintro e w' ⟨rfl,rfl⟩))|go_wp2)
         all_goals
          have s1:IntKind.i64.wrap ((k:Int)+(m:Int))=(k:Int)+(m:Int):=IntWalk.i64_in _ oa;have s2:(0:Int)<=(k:Int)+(m:Int):=oa;have s3:((k:Int)+(m:Int)).toNat=k+m:=oa;have s4:(k:Int)+(m:Int)<=(s.size:Int):=oa;have s6:k<=k+m:=oa;have s5:(k:Int)<=(k:Int)+(m:Int):=oa;go_region
         all_goals
          clear s1 s2 s3 s4 s5 s6
          go_wp2_with (first|((with_reducible refine(HW.out _).mono ?_);rintro e w' ⟨rfl,rfl⟩)|((with_reducible refine(HNm.out _).mono ?_);rintro e w' ⟨rfl,rfl⟩)|(refine(X9 _ _ _).mono ?_;rintro e w' ⟨rfl,rfl⟩))
          first
           |exact⟨rfl,A6v HT.out (((W3.refl b w).alloc _).drew)⟩
           | (refine (HU1.out _).mono ?_
              rintro e w1 ⟨rfl,E⟩;have⟨y1,y2⟩:=AJp E;have HB:=Lib.hid E;clear E;go_wp2;have x4:PA w1 b s _:=(HB.out.block b ot).trans (PA.alloc HR.out _);refine bodyPost_end (v:=.tuple #[]) (by simp[results,Tryz.results297,go_sem]) rfl (oO HT.out ?_ ?_)
              .have x5:=(heap_setCell (w:=(w1.setCell {block:=w.heap.size,off:=0} (Value.int IntKind.i64 2))) (b:=w.heap.size) (i:=1) (v:=Value.string (SB (s.extract k (k+m)))) (j:=b) oa).trans ((heap_setCell (w:=w1) (b:=w.heap.size) (i:=0) (v:=Value.int IntKind.i64 2) (j:=b) oa).trans x4);exact JL (JL (JL (JL (JL x5))))
              .exact(((((((((W3.refl b w).alloc _).drew).below HB.out).set (.inr (AD _))).set (.inr (AD _))).set (.inl rfl)).set (.inl rfl)).set (.inl rfl)).set (.inl rfl)|>.set (.inl rfl))
           | (refine bodyPost_end (v:=.tuple #[]) (by simp [results,Tryz.results297,go_sem]) rfl (oO HT.out ?_ ?_)
              .refine PA.alloc ?_ _;exact JL (JL (JL (JL (JL HR.out))))
              .exact(((((W3.refl b w).set (.inl rfl)).set (.inl rfl)).set (.inl rfl)).set (.inl rfl)).set (.inl rfl)|>.alloc _|>.drew)
end Go.Ev.Pv
